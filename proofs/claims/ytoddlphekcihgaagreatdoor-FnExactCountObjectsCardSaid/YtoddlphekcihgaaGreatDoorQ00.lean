/- Words for memory: a slice that reads as a list of cells, nil let in; Un with the same heap. Plain lemmas, no program. U8 words for what the walks lay oft -/
import Derived.WalkKit
import Derived.WalkSpells
import Derived.WalkLawsBesides
import Derived.Lib.Hide
import Derived.Deep.QuietTactic
import Derived.BigQuiet
import Derived.Deep.AppendLies
import Derived.Deep.Draws
import Derived.Maps.AppendAt
import Derived.RegionTactic
import Derived.OwnWalk
set_option maxRecDepth 100000
set_option maxHeartbeats 8000000
set_option linter.unusedVariables false
set_option linter.unusedSimpArgs false
namespace Go.Proofs.YtoddlphekcihgaaGreatDoor
open Go.RowKit
section
theorem ah {a b : Bool} (h : a = b) : Ending.returned (.bool a) = .returned (.bool b) := by rw [h]
theorem eX {k : IntKind} {a b : Int} (h : a = b) : Ending.returned (.int k a) = .returned (.int k b) := by rw [h]
structure Same (w w' : World) : Prop where
 os : w'.os = w.os
 tape : w'.tape = w.tape
 output : w'.output = w.output
 heap : w'.heap = w.heap
theorem Same.refl (w : World) : Same w w := ⟨rfl, rfl, rfl, rfl⟩
theorem Same.trans {a b c : World} (h : Same a b) (k : Same b c) : Same a c := ⟨k.os.trans h.os, k.tape.trans h.tape, k.output.trans h.output, k.heap.trans h.heap⟩
theorem Same.drew {a w : World} (h : Same a w) : Same a w.drew := ⟨h.os, h.tape, h.output, h.heap⟩
theorem Same.drewN {a w : World} (h : Same a w) (n : Nat) : Same a (w.drewN n) := ⟨h.os, h.tape, h.output, h.heap⟩
theorem Same.below {a w : World} (h : Same a w) (B : Nat) : Below B a w := ⟨h.os, h.tape, h.output, by rw [h.heap]; exact Nat.le_refl _, fun k _ => by rw [h.heap]⟩
theorem Same.cell {a w : World} (h : Same a w) (p : Addr) : w.cell? p = a.cell? p := by simp [World.cell?, h.heap]
theorem Same.frozen {a w : World} (h : Same a w) (p : Addr) : w.frozen? p = a.frozen? p := by simp [World.frozen?, h.heap]
theorem Same.size {a w : World} (h : Same a w) : w.heap.size = a.heap.size := by rw [h.heap]
theorem Same.own {a w : World} (h : Same a w) {base : Nat} {e : TypeId} {size : Nat} {v : Value} {n : Nat} {xs : List Value} (ho : a.ownsRow base e size v n xs) : w.ownsRow base e size v n xs := by
 unfold World.ownsRow at ho ⊢; rw [h.heap]; exact ho
theorem Same.grown {a w : World} (h : Same a w) (row : Option Nat) : a.grownBy w row := ⟨h.os, h.tape, h.output, by rw [h.heap]; exact Nat.le_refl _, fun k _ _ => by rw [h.heap]⟩
theorem yZ {a b c : World} {row : Option Nat} (h : a.grownBy b row) (k : b.grownBy c row) : a.grownBy c row :=
 ⟨k.os.trans h.os, k.tape.trans h.tape, k.output.trans h.output, Nat.le_trans h.size k.size, fun i hi hne => (k.block i (Nat.lt_of_lt_of_le hi h.size) hne).trans (h.block i hi hne)⟩
theorem BJ {a w : World} (h : Below a.heap.size a w) (row : Option Nat) : a.grownBy w row := ⟨h.os, h.tape, h.output, h.size, fun i hi _ => h.block i hi⟩
theorem kM {B : Nat} {a w : World} {row : Option Nat} (h : a.grownBy w row) (hB : B ≤ a.heap.size) (hr : ∀ g, row = some g → B ≤ g) : Below B a w := (Below.refl B a).grown h hB hr
def dU (f : Int → Value) (k : Int) (n : Nat) : List Value := (List.range n).map fun (i : Nat) => f (k + (i : Int))
def Rds (w : World) (lo hi size : Nat) (v : Value) (n : Nat) (xs : List Value) : Prop :=
 ∃ A c, v = .slice A n c ∧ n ≤ c ∧ c ≤ maxLen ∧ xs.length = n * size ∧ (A = none → c = 0) ∧
  (0 < n → ∃ g off, A = some ⟨g, off, none⟩ ∧ lo ≤ g ∧ g < hi ∧ ∀ j u, xs[j]? = some u → w.cell? ⟨g, off + j, none⟩ = some u)
section
variable {w w' : World} {lo hi size n : Nat} {v : Value} {xs : List Value}
theorem Rds.keep (h : Rds w lo hi size v n xs) (hk : ∀ p : Addr, lo ≤ p.block → p.block < hi → w'.cell? p = w.cell? p) : Rds w' lo hi size v n xs := by
 obtain ⟨A, c, hv, h1, h2, h3, h5, h4⟩ := h
 refine ⟨A, c, hv, h1, h2, h3, h5, fun hn => ?_⟩
 obtain ⟨g, off, hA, hg1, hg2, hc⟩ := h4 hn
 exact ⟨g, off, hA, hg1, hg2, fun j u hu => (hk _ hg1 hg2).trans (hc j u hu)⟩
theorem Rds.same (h : Rds w lo hi size v n xs) (hs : Same w w') : Rds w' lo hi size v n xs := h.keep fun p _ _ => hs.cell p
theorem Rds.below {B : Nat} (h : Rds w lo hi size v n xs) (hb : Below B w w') (hB : hi ≤ B) : Rds w' lo hi size v n xs := h.keep fun _ _ hp => hb.cell (by omega)
theorem Rds.grown {row : Option Nat} (h : Rds w lo hi size v n xs) (hg : w.grownBy w' row) (hB : hi ≤ w.heap.size) (hr : ∀ g, row = some g → g < lo ∨ hi ≤ g) : Rds w' lo hi size v n xs :=
 h.keep fun p h1 h2 => World.cell?_of_block (hg.block p.block (by omega) (fun e => by have := hr _ e.symm; omega))
theorem Rds.wide {lo' hi' : Nat} (h : Rds w lo hi size v n xs) (h1 : lo' ≤ lo) (h2 : hi ≤ hi') : Rds w lo' hi' size v n xs := by
 obtain ⟨A, c, hv, g1, g2, g3, g5, g4⟩ := h
 refine ⟨A, c, hv, g1, g2, g3, g5, fun hn => ?_⟩
 obtain ⟨g, off, hA, hg1, hg2, hc⟩ := g4 hn
 exact ⟨g, off, hA, by omega, by omega, hc⟩
theorem Rds.alloc (h : Rds w lo hi size v n xs) (hB : hi ≤ w.heap.size) (o : Obj) : Rds (w.alloc o) lo hi size v n xs := h.below ((Below.refl w.heap.size w).alloc (Nat.le_refl _) o) hB
theorem Rds.eY (h : Rds w lo hi size v n xs) {p : Addr} (hp : p.block < lo ∨ hi ≤ p.block) (u : Value) : Rds (w.setCell p u) lo hi size v n xs :=
 h.keep fun q h1 h2 => World.cell?_setCell_other w p q u (fun e => by subst e; omega)
theorem Rds.none_ : Rds w lo hi size (.slice none 0 0) 0 [] := ⟨none, 0, rfl, Nat.le_refl _, Nat.zero_le _, by simp, fun _ => rfl, fun h => absurd h (by omega)⟩
theorem Rds.KE {base : Nat} {e : TypeId} (h : w.ownsRow base e size v n xs) : Rds w base w.heap.size size v n xs := by
 have hl := h.1
 rcases h.2 with ⟨rfl, rfl⟩ | ⟨g, cap, cur, rfl, hb, hg, hnc, hcm, hsz, htake⟩
 ·refine ⟨none, 0, rfl, Nat.le_refl _, Nat.zero_le _, h.1, fun _ => rfl, fun h => absurd h (by omega)⟩
 ·refine ⟨_, cap, rfl, hnc, hcm, hl, (fun h => by cases h), fun hn => ⟨g, 0, rfl, hb, (Array.getElem?_eq_some_iff.1 hg).1, fun j u hu => ?_⟩⟩
  have := h.cells (g := g) rfl j u hu
  rwa [Addr.add_lit] at this
theorem Rds.at_ {A : Option Addr} {c k : Nat} (h : Rds w lo hi 1 (.slice A n c) n xs) (hk : k < n) : ∃ g off u, A = some ⟨g, off, none⟩ ∧ lo ≤ g ∧ g < hi ∧ xs[k]? = some u ∧ w.cell? ⟨g, off + k, none⟩ = some u := by
 obtain ⟨A', c', hv, h1, h2, h3, -, h4⟩ := h
 injection hv with hA _ hc
 subst hA hc
 obtain ⟨g, off, hA, hg1, hg2, hcell⟩ := h4 (by omega)
 have hl : k < xs.length := by omega
 exact ⟨g, off, xs[k], hA, hg1, hg2, List.getElem?_eq_getElem hl, hcell k _ (List.getElem?_eq_getElem hl)⟩
theorem Rds.KF {α : Type} {f : α → Value} {l : List α} {A : Option Addr} {c k : Nat} (h : Rds w lo hi 1 (.slice A n c) n (l.map f)) (hk : k < n) :
 ∃ g off z, A = some ⟨g, off, none⟩ ∧ lo ≤ g ∧ g < hi ∧ l[k]? = some z ∧ w.cell? ⟨g, off + k, none⟩ = some (f z) := by
 obtain ⟨g, off, u, hA, h1, h2, hu, hc⟩ := h.at_ hk
 rw [List.getElem?_map] at hu
 cases hz : l[k]? with
 | none => rw [hz] at hu; cases hu
 | some z => rw [hz] at hu; injection hu with hu; subst hu; exact ⟨g, off, z, hA, h1, h2, rfl, hc⟩
theorem Rds.shape (h : Rds w lo hi size v n xs) : ∃ A c, v = .slice A n c ∧ n ≤ c ∧ c ≤ maxLen ∧ xs.length = n * size := by
 obtain ⟨A, c, hv, h1, h2, h3, _⟩ := h; exact ⟨A, c, hv, h1, h2, h3⟩
theorem Rds.len (h : Rds w lo hi size v n xs) : xs.length = n * size := by obtain ⟨A, c, hv, h1, h2, h3, _⟩ := h; exact h3
theorem Rds.cells {A : Option Addr} {c : Nat} (h : Rds w lo hi size (.slice A n c) n xs) : ∀ b, A = some b → ∀ j u, xs[j]? = some u → w.cell? (b.add j) = some u := by
 obtain ⟨A', c', hv, h1, h2, h3, h5, h4⟩ := h
 injection hv with e1 _ e3
 subst e1 e3
 intro b hb j u hu
 have hj : j < xs.length := (List.getElem?_eq_some_iff.1 hu).1
 have hn : 0 < n := by
  rcases Nat.eq_zero_or_pos n with h0 | h0
  ·subst h0; simp at h3; subst h3; simp at hj
  ·exact h0
 obtain ⟨g, off, hA, _, _, hc⟩ := h4 hn
 rw [hb] at hA
 injection hA with hA
 subst hA
 rw [Addr.add_lit]
 exact hc j u hu
end
section
variable {P : Program} (w : World)
end
theorem Ho {x y : ByteArray} (h : ¬ x = y) : (x.toList == y.toList) = false := by
 rw [ByteArray.toList_eq, ByteArray.toList_eq, beq_eq_false_iff_ne]
 intro e
 apply h
 apply ByteArray.ext
 exact Array.toList_inj.1 e
theorem str_eq (x : ByteArray) : (x.toList == x.toList) = true := by simp
theorem KG {P : Program} (w W : World) (t ty e : TypeId) (z : Value) (size bytes : Nat) (hinfo : (P.info? e).map (fun i => (i.zero, i.size, i.bytes)) = some (some z, size, bytes)) (ht : P.underlying t = some (.slice e)) (hzs : z.cells.size = size) (hsz : 0 < size) (hby : 0 < bytes)
 (base : Nat) (v : Value) (n : Nat) (xs : List Value) (hown : w.ownsRow base e size v n xs)
 (cs : Array Value) (c : Nat) (t' : TypeId) (hW : Same (w.alloc (.cells cs t')) W) (hl : cs.size = size) (h1 : ∀ u ∈ cs.toList, u.oneCell' = true)
 (hroom : (n + 1) * bytes ≤ 140737488355328) (hbase : base ≤ w.heap.size) :
 ∃ v' w', (Builtin.append_ #[t, t] ty #[v, .slice (some ⟨w.heap.size, 0, none⟩) 1 c]).run P W = .ok v' w' ∧ w'.ownsRow base e size v' (n + 1) (xs ++ cs.toList) ∧ w.grownBy w' v.ownBlock ∧
  (v'.ownBlock = v.ownBlock ∨ v'.ownBlock = some (w.heap.size + 1)) := by
 obtain ⟨i0, hi0, hz0, hz1, hz2⟩ := info_parts hinfo
 have hn : n + 1 ≤ (n + 1) * bytes := Nat.le_mul_of_pos_right _ hby
 have hWs : W.heap.size = w.heap.size + 1 := by rw [hW.size]; simp
 obtain ⟨v', w', hr, ho, hg, -, hat⟩ := run_append_own_at (P := P) W base t ty e i0 z size bytes ht hi0 hz0 hz1 hz2 hzs hsz v n xs (hW.own (hown.alloc _)) ⟨w.heap.size, 0, none⟩ 1 c cs.toList (by simp [hl])
  (fun j u hu => by
   rw [Addr.add_lit, Nat.zero_add, hW.cell, World.cell?_alloc_mark]
   simpa using hu) h1 (by unfold maxLen; omega) hroom (by omega)
 rw [hWs] at hat
 exact ⟨v', w', hr, ho, yZ (World.grownBy_alloc _ _ _) (yZ (hW.grown _) hg), hat⟩
theorem M5 {P : Program} {w W : World} {o : Oper} {a : Act} {K : Act → World → Prop} {Q : Exit → Act → World → Prop} (s x : Operand) (t : TypeId)
 (ho : o.op = .call { callee := .builtin .append, args := #[s, x], argTypes := #[t, t] })
 (e : TypeId) (z : Value) (size bytes : Nat) (hinfo : (P.info? e).map (fun i => (i.zero, i.size, i.bytes)) = some (some z, size, bytes)) (ht : P.underlying t = some (.slice e)) (hzs : z.cells.size = size) (hsz : 0 < size) (hby : 0 < bytes)
 (base : Nat) (v : Value) (n : Nat) (xs : List Value) (hs : a.eval s = v) (hown : w.ownsRow base e size v n xs)
 (cs : Array Value) (c : Nat) (t' : TypeId) (hx : a.eval x = .slice (some ⟨w.heap.size, 0, none⟩) 1 c) (hW : Same (w.alloc (.cells cs t')) W) (hl : cs.size = size) (h1 : ∀ u ∈ cs.toList, u.oneCell' = true)
 (hroom : (n + 1) * bytes ≤ 140737488355328) (hbase : base ≤ w.heap.size)
 (h : ∀ v' w', w'.ownsRow base e size v' (n + 1) (xs ++ cs.toList) → w.grownBy w' v.ownBlock → (v'.ownBlock = v.ownBlock ∨ v'.ownBlock = some (w.heap.size + 1)) → K (a.put o.dst v') w') : o.wp P a W K Q := by
 obtain ⟨v', w', hr, h2, h3, h4⟩ := KG (P := P) w W t o.type e z size bytes hinfo ht hzs hsz hby base v n xs hown cs c t' hW hl h1 hroom hbase
 unfold Oper.wp execOp
 simp only [ho, resolve, invoke, builtin, Sem.run_bind, Sem.run_pure, Result.andThen_ok, List.map_toArray, List.map_cons, List.map_nil, hs, hx, hr]
 exact h v' w' h2 h3 h4
theorem F6 {P : Program} {w : World} {ops : Array Oper} {rest : List Oper} {o : Oper} {a : Act} {Q : Exit → Act → World → Prop} (hgd : o.guard = none) (s x : Operand) (t : TypeId)
 (ho : o.op = .call { callee := .builtin .append, args := #[s, x], argTypes := #[t, t] })
 (e : TypeId) (z : Value) (size bytes : Nat) (hinfo : (P.info? e).map (fun i => (i.zero, i.size, i.bytes)) = some (some z, size, bytes)) (ht : P.underlying t = some (.slice e)) (hzs : z.cells.size = size) (hsz : 0 < size) (hby : 0 < bytes)
 (base : Nat) (v : Value) (n : Nat) (xs : List Value) (hs : a.eval s = v) (hown : w.ownsRow base e size v n xs)
 (cs : Array Value) (c : Nat) (t' : TypeId) (hx : a.eval x = .slice (some ⟨w.heap.size, 0, none⟩) 1 c) (hl : cs.size = size) (h1 : ∀ u ∈ cs.toList, u.oneCell' = true)
 (hroom : (n + 1) * bytes ≤ 140737488355328) (hbase : base ≤ w.heap.size)
 (h : ∀ v' w', w'.ownsRow base e size v' (n + 1) (xs ++ cs.toList) → w.grownBy w' v.ownBlock → (v'.ownBlock = v.ownBlock ∨ v'.ownBlock = some (w.heap.size + 1)) → wpList P ops Q rest (a.put o.dst v') w') : wpList P ops Q (o :: rest) a (w.alloc (.cells cs t')) :=
 wpList_plain hgd fun _ hK => M5 s x t ho e z size bytes hinfo ht hzs hsz hby base v n xs hs hown cs c t' hx (Same.refl _) hl h1 hroom hbase fun v' w' h2 h3 h4 => hK _ _ (h v' w' h2 h3 h4)
def Apart (v : Value) (lo hi : Nat) : Prop := ∀ b, v.ownBlock = some b → b < lo ∨ hi ≤ b
theorem Apart.push {v v' : Value} {lo hi : Nat} {w : World} (h : Apart v lo hi) (hat : v'.ownBlock = v.ownBlock ∨ v'.ownBlock = some (w.heap.size + 1)) (hhi : hi ≤ w.heap.size) : Apart v' lo hi := by
 intro b hb
 rcases hat with e | e
 ·exact h b (by rw [← e]; exact hb)
 ·rw [e] at hb; injection hb with hb; right; omega
theorem Apart.KE {w : World} {base : Nat} {e : TypeId} {size n : Nat} {v : Value} {xs : List Value} (h : w.ownsRow base e size v n xs) (hi : Nat) : Apart v w.heap.size hi := fun b hb => .inl (h.lt b hb).2
theorem Rds.apart {w w' : World} {lo hi size n : Nat} {v u : Value} {xs : List Value} (h : Rds w lo hi size v n xs) (ha : Apart u lo hi) (hg : w.grownBy w' u.ownBlock) (hhi : hi ≤ w.heap.size) : Rds w' lo hi size v n xs :=
 h.grown hg hhi fun g hgg => ha g hgg
theorem BK {B : Nat} {w wo w1 : World} {e : TypeId} {size n : Nat} {v : Value} {xs : List Value} (hb : Below B w wo) (hB : B ≤ wo.heap.size) (hown : wo.ownsRow B e size v n xs) (hg : wo.grownBy w1 v.ownBlock) : Below B w w1 :=
 hb.grown hg hB fun k hk => (hown.lt k hk).1
theorem F7 {α : Type} {A Z : List α} {k : Nat} {u : α} (h : A[k]? = some u) (hl : A.length = Z.length) : (A.take k ++ Z.drop k).set k u = A.take (k + 1) ++ Z.drop (k + 1) := by
 obtain ⟨hk, rfl⟩ := List.getElem?_eq_some_iff.1 h
 rw [List.set_append_right _ _ (by simp [List.length_take]; omega), List.length_take, Nat.min_eq_left (by omega), Nat.sub_self, List.drop_eq_getElem_cons (by omega), List.set_cons_zero, List.take_succ_eq_append_getElem hk, List.append_assoc]
 rfl
theorem F8 {α : Type} {A Z : List α} (hl : A.length = Z.length) : A.take A.length ++ Z.drop A.length = A := by
 rw [List.take_length, List.drop_eq_nil_of_le (by omega), List.append_nil]
theorem F9 {α : Type} {A Z : List α} {k : Nat} (hl : A.length = Z.length) (hk : k ≤ A.length) : (A.take k ++ Z.drop k).length = A.length := by
 simp [List.length_take]; omega
def Blk (w : World) (g : Nat) (t : TypeId) (cs : Array Value) : Prop := w.heap[g]? = some (.cells cs t (0, 0))
section
variable {w w' : World} {g : Nat} {t : TypeId} {cs : Array Value}
theorem Blk.lt (h : Blk w g t cs) : g < w.heap.size := by
 rcases Nat.lt_or_ge g w.heap.size with hlt | hge
 ·exact hlt
 ·unfold Blk at h; rw [Array.getElem?_eq_none hge] at h; cases h
theorem Blk.cell (h : Blk w g t cs) (i : Nat) : w.cell? ⟨g, i, none⟩ = cs[i]? := cell_of_row w g i cs t (0, 0) h
theorem Blk.frozen (h : Blk w g t cs) (i : Nat) : w.frozen? ⟨g, i, none⟩ = false := by
 unfold Blk at h
 simp [World.frozen?, h]
theorem Blk.new (w : World) (t : TypeId) (cs : Array Value) : Blk (w.alloc (.cells cs t)) w.heap.size t cs := heap_alloc_new w _
theorem Blk.newAt (w : World) (t : TypeId) (cs : Array Value) (g : Nat) (hg : g = w.heap.size) : Blk (w.alloc (.cells cs t)) g t cs := hg ▸ Blk.new w t cs
theorem Blk.drew (h : Blk w g t cs) : Blk w.drew g t cs := h
theorem Blk.drewN (h : Blk w g t cs) (n : Nat) : Blk (w.drewN n) g t cs := h
theorem Blk.alloc (h : Blk w g t cs) (o : Obj) : Blk (w.alloc o) g t cs := (Below.heap_alloc w o g h.lt).trans h
theorem Blk.M6 (h : Blk w g t cs) (i : Nat) (u : Value) : Blk (w.setCell ⟨g, i, none⟩ u) g t (cs.setIfInBounds i u) := by
 unfold Blk at h ⊢
 simp [World.setCell, Array.getElem?_modify, h]
theorem Blk.far (h : Blk w g t cs) {p : Addr} (hp : g ≠ p.block) (u : Value) : Blk (w.setCell p u) g t cs := (Below.heap_setCell w p u g hp).trans h
theorem Blk.below {B : Nat} (h : Blk w g t cs) (hb : Below B w w') (hg : g < B) : Blk w' g t cs := (hb.block g hg).trans h
theorem Blk.later (h : Blk w g t cs) (hb : Below w.heap.size w w') : Blk w' g t cs := h.below hb h.lt
theorem Blk.same (h : Blk w g t cs) (hs : Same w w') : Blk w' g t cs := by unfold Blk at h ⊢; rw [hs.heap]; exact h
theorem Blk.grown {row : Option Nat} (h : Blk w g t cs) (hb : w.grownBy w' row) (hg : some g ≠ row) : Blk w' g t cs := (hb.block g h.lt hg).trans h
end
theorem qB {α : Type} {l : List α} {k : Nat} {z : α} (h : l[k]? = some z) : l.take (k + 1) = l.take k ++ [z] := by
 obtain ⟨hk, rfl⟩ := List.getElem?_eq_some_iff.1 h
 exact List.take_succ_eq_append_getElem hk
def lV (s : ByteArray) (i : Nat) : Nat := (s.data.toList.getD i 0).toNat
theorem tY (s : ByteArray) (i : Nat) (h : i < s.size) : lV s i = s[i].toNat := by
 unfold lV
 rw [List.getD, List.getElem?_eq_getElem (by simpa using h)]
 rfl
end
theorem Blk.all {w : World} {g : Nat} {t : TypeId} {cs : Array Value} (h : Blk w g t cs) : (∀ i, w.cell? ⟨g, i, none⟩ = cs[i]?) ∧ g < w.heap.size ∧ ∀ i, w.frozen? ⟨g, i, none⟩ = false := ⟨h.cell, h.lt, h.frozen⟩
end Go.Proofs.YtoddlphekcihgaaGreatDoor
