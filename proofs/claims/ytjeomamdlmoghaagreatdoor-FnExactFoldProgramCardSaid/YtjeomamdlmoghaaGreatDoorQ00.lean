/- Words for memory: a slice that reads as a list of cells, nil let in; worlds with the same heap. Plain lemmas, no program. Short words for what the walks lay often (boxes laid one after the other; the facts of a box). The row's last step where the world is known by Below alone (turned from the guide's page of small lemmas). Data in memory: one-cell data (numbers, texts, flags, rows of structs), and how a value reads as such. Plain lemmas, no program. -/
import Derived.WalkKit
import Derived.WalkSpells
import Derived.WalkLawsBesides
import Derived.Lib.Hide
import Derived.Deep.QuietTactic
import Derived.BigQuiet
import Derived.Deep.AppendLies
import Derived.Deep.Draws
import Derived.Maps.AppendAt
import Derived.RegionTactic
import Derived.OwnWalk
import Derived.Test.YtjeomamdlmoghaaGreatDoorRows
import Derived.ProofKit
import Derived.OpenShut
import Derived.ShutString
import Derived.ChangeSame
set_option maxRecDepth 100000
set_option maxHeartbeats 8000000
set_option linter.unusedVariables false
set_option linter.unusedSimpArgs false
section
namespace Go.Proofs.YtjeomamdlmoghaaGreatDoor
open Go.RowKit
theorem ret_bool {a b : Bool} (h : a = b) : Ending.returned (.bool a) = .returned (.bool b) := by rw [h]
theorem ret_int {k : IntKind} {a b : Int} (h : a = b) : Ending.returned (.int k a) = .returned (.int k b) := by rw [h]
theorem ret_string {a b : ByteArray} (h : a = b) : Ending.returned (.string a) = .returned (.string b) := by rw [h]
structure Same (w w' : World) : Prop where
 os : w'.os = w.os
 tape : w'.tape = w.tape
 output : w'.output = w.output
 heap : w'.heap = w.heap
theorem Same.refl (w : World) : Same w w := ⟨rfl, rfl, rfl, rfl⟩
theorem Same.trans {a b c : World} (h : Same a b) (k : Same b c) : Same a c := ⟨k.os.trans h.os, k.tape.trans h.tape, k.output.trans h.output, k.heap.trans h.heap⟩
theorem Same.drew {a w : World} (h : Same a w) : Same a w.drew := ⟨h.os, h.tape, h.output, h.heap⟩
theorem Same.drewN {a w : World} (h : Same a w) (n : Nat) : Same a (w.drewN n) := ⟨h.os, h.tape, h.output, h.heap⟩
theorem Same.below {a w : World} (h : Same a w) (B : Nat) : Below B a w := ⟨h.os, h.tape, h.output, by rw [h.heap]; exact Nat.le_refl _, fun k _ => by rw [h.heap]⟩
theorem Same.cell {a w : World} (h : Same a w) (p : Addr) : w.cell? p = a.cell? p := by simp [World.cell?, h.heap]
theorem Same.frozen {a w : World} (h : Same a w) (p : Addr) : w.frozen? p = a.frozen? p := by simp [World.frozen?, h.heap]
theorem Same.size {a w : World} (h : Same a w) : w.heap.size = a.heap.size := by rw [h.heap]
theorem Same.own {a w : World} (h : Same a w) {base : Nat} {e : TypeId} {size : Nat} {v : Value} {n : Nat} {xs : List Value} (ho : a.ownsRow base e size v n xs) : w.ownsRow base e size v n xs := by
 unfold World.ownsRow at ho ⊢; rw [h.heap]; exact ho
theorem Same.grown {a w : World} (h : Same a w) (row : Option Nat) : a.grownBy w row := ⟨h.os, h.tape, h.output, by rw [h.heap]; exact Nat.le_refl _, fun k _ _ => by rw [h.heap]⟩
theorem grown_trans2 {a b c : World} {row : Option Nat} (h : a.grownBy b row) (k : b.grownBy c row) : a.grownBy c row :=
 ⟨k.os.trans h.os, k.tape.trans h.tape, k.output.trans h.output, Nat.le_trans h.size k.size, fun i hi hne => (k.block i (Nat.lt_of_lt_of_le hi h.size) hne).trans (h.block i hi hne)⟩
theorem grown_of_below {a w : World} (h : Below a.heap.size a w) (row : Option Nat) : a.grownBy w row := ⟨h.os, h.tape, h.output, h.size, fun i hi _ => h.block i hi⟩
theorem below_of_grown {B : Nat} {a w : World} {row : Option Nat} (h : a.grownBy w row) (hB : B ≤ a.heap.size) (hr : ∀ g, row = some g → B ≤ g) : Below B a w := (Below.refl B a).grown h hB hr
def marks (f : Int → Value) (k : Int) (n : Nat) : List Value := (List.range n).map fun (i : Nat) => f (k + (i : Int))
def Rds (w : World) (lo hi size : Nat) (v : Value) (n : Nat) (xs : List Value) : Prop :=
 ∃ A c, v = .slice A n c ∧ n ≤ c ∧ c ≤ maxLen ∧ xs.length = n * size ∧ (A = none → c = 0) ∧
  (0 < n → ∃ g off, A = some ⟨g, off, none⟩ ∧ lo ≤ g ∧ g < hi ∧ ∀ j u, xs[j]? = some u → w.cell? ⟨g, off + j, none⟩ = some u)
section
variable {w w' : World} {lo hi size n : Nat} {v : Value} {xs : List Value}
theorem Rds.keep (h : Rds w lo hi size v n xs) (hk : ∀ p : Addr, lo ≤ p.block → p.block < hi → w'.cell? p = w.cell? p) : Rds w' lo hi size v n xs := by
 obtain ⟨A, c, hv, h1, h2, h3, h5, h4⟩ := h
 refine ⟨A, c, hv, h1, h2, h3, h5, fun hn => ?_⟩
 obtain ⟨g, off, hA, hg1, hg2, hc⟩ := h4 hn
 exact ⟨g, off, hA, hg1, hg2, fun j u hu => (hk _ hg1 hg2).trans (hc j u hu)⟩
theorem Rds.same (h : Rds w lo hi size v n xs) (hs : Same w w') : Rds w' lo hi size v n xs := h.keep fun p _ _ => hs.cell p
theorem Rds.below {B : Nat} (h : Rds w lo hi size v n xs) (hb : Below B w w') (hB : hi ≤ B) : Rds w' lo hi size v n xs := h.keep fun _ _ hp => hb.cell (by omega)
theorem Rds.grown {row : Option Nat} (h : Rds w lo hi size v n xs) (hg : w.grownBy w' row) (hB : hi ≤ w.heap.size) (hr : ∀ g, row = some g → g < lo ∨ hi ≤ g) : Rds w' lo hi size v n xs :=
 h.keep fun p h1 h2 => World.cell?_of_block (hg.block p.block (by omega) (fun e => by have := hr _ e.symm; omega))
theorem Rds.wide {lo' hi' : Nat} (h : Rds w lo hi size v n xs) (h1 : lo' ≤ lo) (h2 : hi ≤ hi') : Rds w lo' hi' size v n xs := by
 obtain ⟨A, c, hv, g1, g2, g3, g5, g4⟩ := h
 refine ⟨A, c, hv, g1, g2, g3, g5, fun hn => ?_⟩
 obtain ⟨g, off, hA, hg1, hg2, hc⟩ := g4 hn
 exact ⟨g, off, hA, by omega, by omega, hc⟩
theorem Rds.alloc (h : Rds w lo hi size v n xs) (hB : hi ≤ w.heap.size) (o : Obj) : Rds (w.alloc o) lo hi size v n xs := h.below ((Below.refl w.heap.size w).alloc (Nat.le_refl _) o) hB
theorem Rds.setFar (h : Rds w lo hi size v n xs) {p : Addr} (hp : p.block < lo ∨ hi ≤ p.block) (u : Value) : Rds (w.setCell p u) lo hi size v n xs :=
 h.keep fun q h1 h2 => World.cell?_setCell_other w p q u (fun e => by subst e; omega)
theorem Rds.none_ : Rds w lo hi size (.slice none 0 0) 0 [] := ⟨none, 0, rfl, Nat.le_refl _, Nat.zero_le _, by simp, fun _ => rfl, fun h => absurd h (by omega)⟩
theorem Rds.of_own {base : Nat} {e : TypeId} (h : w.ownsRow base e size v n xs) : Rds w base w.heap.size size v n xs := by
 have hl := h.1
 rcases h.2 with ⟨rfl, rfl⟩ | ⟨g, cap, cur, rfl, hb, hg, hnc, hcm, hsz, htake⟩
 ·refine ⟨none, 0, rfl, Nat.le_refl _, Nat.zero_le _, h.1, fun _ => rfl, fun h => absurd h (by omega)⟩
 ·refine ⟨_, cap, rfl, hnc, hcm, hl, (fun h => by cases h), fun hn => ⟨g, 0, rfl, hb, (Array.getElem?_eq_some_iff.1 hg).1, fun j u hu => ?_⟩⟩
  have := h.cells (g := g) rfl j u hu
  rwa [Addr.add_lit] at this
theorem Rds.at_ {A : Option Addr} {c k : Nat} (h : Rds w lo hi 1 (.slice A n c) n xs) (hk : k < n) : ∃ g off u, A = some ⟨g, off, none⟩ ∧ lo ≤ g ∧ g < hi ∧ xs[k]? = some u ∧ w.cell? ⟨g, off + k, none⟩ = some u := by
 obtain ⟨A', c', hv, h1, h2, h3, -, h4⟩ := h
 injection hv with hA _ hc
 subst hA hc
 obtain ⟨g, off, hA, hg1, hg2, hcell⟩ := h4 (by omega)
 have hl : k < xs.length := by omega
 exact ⟨g, off, xs[k], hA, hg1, hg2, List.getElem?_eq_getElem hl, hcell k _ (List.getElem?_eq_getElem hl)⟩
theorem Rds.atMap {α : Type} {f : α → Value} {l : List α} {A : Option Addr} {c k : Nat} (h : Rds w lo hi 1 (.slice A n c) n (l.map f)) (hk : k < n) :
 ∃ g off z, A = some ⟨g, off, none⟩ ∧ lo ≤ g ∧ g < hi ∧ l[k]? = some z ∧ w.cell? ⟨g, off + k, none⟩ = some (f z) := by
 obtain ⟨g, off, u, hA, h1, h2, hu, hc⟩ := h.at_ hk
 rw [List.getElem?_map] at hu
 cases hz : l[k]? with
 | none => rw [hz] at hu; cases hu
 | some z => rw [hz] at hu; injection hu with hu; subst hu; exact ⟨g, off, z, hA, h1, h2, rfl, hc⟩
theorem Rds.shape (h : Rds w lo hi size v n xs) : ∃ A c, v = .slice A n c ∧ n ≤ c ∧ c ≤ maxLen ∧ xs.length = n * size := by
 obtain ⟨A, c, hv, h1, h2, h3, _⟩ := h; exact ⟨A, c, hv, h1, h2, h3⟩
theorem Rds.len (h : Rds w lo hi size v n xs) : xs.length = n * size := by obtain ⟨A, c, hv, h1, h2, h3, _⟩ := h; exact h3
theorem Rds.nilCap {A : Option Addr} {c : Nat} (h : Rds w lo hi size (.slice A n c) n xs) (hA : A = none) : n = 0 ∧ c = 0 := by
 obtain ⟨A', c', hv, h1, h2, h3, h5, _⟩ := h
 injection hv with e1 _ e3
 subst e1 e3
 have := h5 hA; omega
theorem Rds.cells {A : Option Addr} {c : Nat} (h : Rds w lo hi size (.slice A n c) n xs) : ∀ b, A = some b → ∀ j u, xs[j]? = some u → w.cell? (b.add j) = some u := by
 obtain ⟨A', c', hv, h1, h2, h3, h5, h4⟩ := h
 injection hv with e1 _ e3
 subst e1 e3
 intro b hb j u hu
 have hj : j < xs.length := (List.getElem?_eq_some_iff.1 hu).1
 have hn : 0 < n := by
  rcases Nat.eq_zero_or_pos n with h0 | h0
  ·subst h0; simp at h3; subst h3; simp at hj
  ·exact h0
 obtain ⟨g, off, hA, _, _, hc⟩ := h4 hn
 rw [hb] at hA
 injection hA with hA
 subst hA
 rw [Addr.add_lit]
 exact hc j u hu
end
section
variable {P : Program} (w : World)
theorem run_append_of_nil (base : Nat) (t ty e : TypeId) (i : TypeInfo) (size : Nat) (ht : P.underlying t = some (.slice e)) (hi : P.info? e = some i)
 (v : Value) (n : Nat) (xs : List Value) (hown : w.ownsRow base e size v n xs) (c : Nat) : (Builtin.append_ #[t, t] ty #[v, .slice none 0 c]).run P w = .ok v w := by
 rcases hown.2 with ⟨rfl, rfl⟩ | ⟨g, cap, cur, rfl, _, _, hnc, _⟩
 ·simp [Builtin.append_, run_underlying ht, sizeOf, typeInfo, hi, Builtin.lenOf, Builtin.firstCells]
 ·simp [Builtin.append_, run_underlying ht, sizeOf, typeInfo, hi, Builtin.lenOf, Builtin.firstCells, hnc, storeCells]
theorem run_append_any (base : Nat) (t ty e : TypeId) (i : TypeInfo) (z : Value) (size bytes : Nat) (ht : P.underlying t = some (.slice e)) (hi : P.info? e = some i) (hz : i.zero = some z)
 (hsize : i.size = size) (hby : i.bytes = bytes) (hzs : z.cells.size = size) (hsz : 0 < size)
 (v : Value) (n : Nat) (xs : List Value) (hown : w.ownsRow base e size v n xs)
 (lo hi' : Nat) (u : Value) (m : Nat) (news : List Value) (hr : Rds w lo hi' size u m news) (h1 : ∀ u ∈ news, u.oneCell' = true)
 (h63 : n + m ≤ maxLen) (hbytes : (n + m) * bytes ≤ 140737488355328) (hbase : base ≤ w.heap.size) :
 ∃ v' w', (Builtin.append_ #[t, t] ty #[v, u]).run P w = .ok v' w' ∧ w'.ownsRow base e size v' (n + m) (xs ++ news) ∧ w.grownBy w' v.ownBlock ∧
  (v'.ownBlock = v.ownBlock ∨ v'.ownBlock = some w.heap.size) := by
 obtain ⟨A, c, rfl, _, _, hlen⟩ := hr.shape
 rcases A with _ | ad
 ·obtain ⟨rfl, rfl⟩ := hr.nilCap rfl
  have hn : news = [] := List.eq_nil_of_length_eq_zero (by simpa using hlen)
  subst hn
  exact ⟨v, w, run_append_of_nil w base t ty e i size ht hi v n xs hown 0, by simpa using hown, World.grownBy.refl w _, .inl rfl⟩
 ·obtain ⟨v', w', hrun, h2, h3, _, h5⟩ := run_append_own_at (P := P) w base t ty e i z size bytes ht hi hz hsize hby hzs hsz v n xs hown ad m c news hlen (hr.cells ad rfl) h1 h63 hbytes hbase
  exact ⟨v', w', hrun, h2, h3, h5⟩
theorem wp_append_any {o : Oper} {a : Act} {K : Act → World → Prop} {Q : Exit → Act → World → Prop} (s x : Operand) (t : TypeId)
 (ho : o.op = .call { callee := .builtin .append, args := #[s, x], argTypes := #[t, t] })
 (base : Nat) (e : TypeId) (i : TypeInfo) (z : Value) (size bytes : Nat) (ht : P.underlying t = some (.slice e)) (hi : P.info? e = some i) (hz : i.zero = some z)
 (hsize : i.size = size) (hby : i.bytes = bytes) (hzs : z.cells.size = size) (hsz : 0 < size)
 (v : Value) (n : Nat) (xs : List Value) (hs : a.eval s = v) (hown : w.ownsRow base e size v n xs)
 (lo hi' : Nat) (u : Value) (m : Nat) (news : List Value) (hx : a.eval x = u) (hr : Rds w lo hi' size u m news) (h1 : ∀ u ∈ news, u.oneCell' = true)
 (h63 : n + m ≤ maxLen) (hbytes : (n + m) * bytes ≤ 140737488355328) (hbase : base ≤ w.heap.size)
 (h : ∀ v' w', w'.ownsRow base e size v' (n + m) (xs ++ news) → w.grownBy w' v.ownBlock → (v'.ownBlock = v.ownBlock ∨ v'.ownBlock = some w.heap.size) → K (a.put o.dst v') w') : o.wp P a w K Q := by
 obtain ⟨v', w', hrun, h2, h3, h4⟩ := run_append_any (P := P) w base t o.type e i z size bytes ht hi hz hsize hby hzs hsz v n xs hown lo hi' u m news hr h1 h63 hbytes hbase
 unfold Oper.wp execOp
 simp only [ho, resolve, invoke, builtin, Sem.run_bind, Sem.run_pure, Result.andThen_ok, List.map_toArray, List.map_cons, List.map_nil, hs, hx, hrun]
 exact h v' w' h2 h3 h4
end
theorem run_convert_byte1 {P : Program} (src dst e : TypeId) (hs : P.underlying src = some (.slice e)) (he : P.underlying e = some (.int .u8)) (hd : P.underlying dst = some .string) (w : World) (x : Int) (c : Nat) (t : TypeId) :
 (convert src dst (.slice (some ⟨w.heap.size, 0, none⟩) 1 c)).run P (w.alloc (.cells #[.int .u8 x] t)) = .ok (.string ⟨#[UInt8.ofNat x.toNat]⟩) (w.alloc (.cells #[.int .u8 x] t)) := by
 have hl := run_loadCells_list (P := P) (w.alloc (.cells #[.int .u8 x] t)) ⟨w.heap.size, 0, none⟩ [.int .u8 x] (cell_one_new w _ t)
 rw [run_convert_bytes_string _ src dst e _ 1 c hs he hd, run_bytesToString _ _ 1 c [x] (by simpa using hl)]
 rfl
theorem str_ne {x y : ByteArray} (h : ¬ x = y) : (x.toList == y.toList) = false := by
 rw [ByteArray.toList_eq, ByteArray.toList_eq, beq_eq_false_iff_ne]
 intro e
 apply h
 apply ByteArray.ext
 exact Array.toList_inj.1 e
theorem str_eq (x : ByteArray) : (x.toList == x.toList) = true := by simp
theorem run_push {P : Program} (w W : World) (t ty e : TypeId) (z : Value) (size bytes : Nat) (hinfo : (P.info? e).map (fun i => (i.zero, i.size, i.bytes)) = some (some z, size, bytes)) (ht : P.underlying t = some (.slice e)) (hzs : z.cells.size = size) (hsz : 0 < size) (hby : 0 < bytes)
 (base : Nat) (v : Value) (n : Nat) (xs : List Value) (hown : w.ownsRow base e size v n xs)
 (cs : Array Value) (c : Nat) (t' : TypeId) (hW : Same (w.alloc (.cells cs t')) W) (hl : cs.size = size) (h1 : ∀ u ∈ cs.toList, u.oneCell' = true)
 (hroom : (n + 1) * bytes ≤ 140737488355328) (hbase : base ≤ w.heap.size) :
 ∃ v' w', (Builtin.append_ #[t, t] ty #[v, .slice (some ⟨w.heap.size, 0, none⟩) 1 c]).run P W = .ok v' w' ∧ w'.ownsRow base e size v' (n + 1) (xs ++ cs.toList) ∧ w.grownBy w' v.ownBlock ∧
  (v'.ownBlock = v.ownBlock ∨ v'.ownBlock = some (w.heap.size + 1)) := by
 obtain ⟨i0, hi0, hz0, hz1, hz2⟩ := info_parts hinfo
 have hn : n + 1 ≤ (n + 1) * bytes := Nat.le_mul_of_pos_right _ hby
 have hWs : W.heap.size = w.heap.size + 1 := by rw [hW.size]; simp
 obtain ⟨v', w', hr, ho, hg, -, hat⟩ := run_append_own_at (P := P) W base t ty e i0 z size bytes ht hi0 hz0 hz1 hz2 hzs hsz v n xs (hW.own (hown.alloc _)) ⟨w.heap.size, 0, none⟩ 1 c cs.toList (by simp [hl])
  (fun j u hu => by
   rw [Addr.add_lit, Nat.zero_add, hW.cell, World.cell?_alloc_mark]
   simpa using hu) h1 (by unfold maxLen; omega) hroom (by omega)
 rw [hWs] at hat
 exact ⟨v', w', hr, ho, grown_trans2 (World.grownBy_alloc _ _ _) (grown_trans2 (hW.grown _) hg), hat⟩
theorem wp_push {P : Program} {w W : World} {o : Oper} {a : Act} {K : Act → World → Prop} {Q : Exit → Act → World → Prop} (s x : Operand) (t : TypeId)
 (ho : o.op = .call { callee := .builtin .append, args := #[s, x], argTypes := #[t, t] })
 (e : TypeId) (z : Value) (size bytes : Nat) (hinfo : (P.info? e).map (fun i => (i.zero, i.size, i.bytes)) = some (some z, size, bytes)) (ht : P.underlying t = some (.slice e)) (hzs : z.cells.size = size) (hsz : 0 < size) (hby : 0 < bytes)
 (base : Nat) (v : Value) (n : Nat) (xs : List Value) (hs : a.eval s = v) (hown : w.ownsRow base e size v n xs)
 (cs : Array Value) (c : Nat) (t' : TypeId) (hx : a.eval x = .slice (some ⟨w.heap.size, 0, none⟩) 1 c) (hW : Same (w.alloc (.cells cs t')) W) (hl : cs.size = size) (h1 : ∀ u ∈ cs.toList, u.oneCell' = true)
 (hroom : (n + 1) * bytes ≤ 140737488355328) (hbase : base ≤ w.heap.size)
 (h : ∀ v' w', w'.ownsRow base e size v' (n + 1) (xs ++ cs.toList) → w.grownBy w' v.ownBlock → (v'.ownBlock = v.ownBlock ∨ v'.ownBlock = some (w.heap.size + 1)) → K (a.put o.dst v') w') : o.wp P a W K Q := by
 obtain ⟨v', w', hr, h2, h3, h4⟩ := run_push (P := P) w W t o.type e z size bytes hinfo ht hzs hsz hby base v n xs hown cs c t' hW hl h1 hroom hbase
 unfold Oper.wp execOp
 simp only [ho, resolve, invoke, builtin, Sem.run_bind, Sem.run_pure, Result.andThen_ok, List.map_toArray, List.map_cons, List.map_nil, hs, hx, hr]
 exact h v' w' h2 h3 h4
theorem wpList_push {P : Program} {w : World} {ops : Array Oper} {rest : List Oper} {o : Oper} {a : Act} {Q : Exit → Act → World → Prop} (hgd : o.guard = none) (s x : Operand) (t : TypeId)
 (ho : o.op = .call { callee := .builtin .append, args := #[s, x], argTypes := #[t, t] })
 (e : TypeId) (z : Value) (size bytes : Nat) (hinfo : (P.info? e).map (fun i => (i.zero, i.size, i.bytes)) = some (some z, size, bytes)) (ht : P.underlying t = some (.slice e)) (hzs : z.cells.size = size) (hsz : 0 < size) (hby : 0 < bytes)
 (base : Nat) (v : Value) (n : Nat) (xs : List Value) (hs : a.eval s = v) (hown : w.ownsRow base e size v n xs)
 (cs : Array Value) (c : Nat) (t' : TypeId) (hx : a.eval x = .slice (some ⟨w.heap.size, 0, none⟩) 1 c) (hl : cs.size = size) (h1 : ∀ u ∈ cs.toList, u.oneCell' = true)
 (hroom : (n + 1) * bytes ≤ 140737488355328) (hbase : base ≤ w.heap.size)
 (h : ∀ v' w', w'.ownsRow base e size v' (n + 1) (xs ++ cs.toList) → w.grownBy w' v.ownBlock → (v'.ownBlock = v.ownBlock ∨ v'.ownBlock = some (w.heap.size + 1)) → wpList P ops Q rest (a.put o.dst v') w') : wpList P ops Q (o :: rest) a (w.alloc (.cells cs t')) :=
 wpList_plain hgd fun _ hK => wp_push s x t ho e z size bytes hinfo ht hzs hsz hby base v n xs hs hown cs c t' hx (Same.refl _) hl h1 hroom hbase fun v' w' h2 h3 h4 => hK _ _ (h v' w' h2 h3 h4)
theorem step_push {P : Program} {w W : World} {ops : Array Oper} {o : Oper} {a : Act} {K : Act → World → Prop} {Q : Exit → Act → World → Prop} {E : Prop} (hgd : o.guard = none) (s x : Operand) (t : TypeId)
 (ho : o.op = .call { callee := .builtin .append, args := #[s, x], argTypes := #[t, t] })
 (e : TypeId) (z : Value) (size bytes : Nat) (hinfo : (P.info? e).map (fun i => (i.zero, i.size, i.bytes)) = some (some z, size, bytes)) (ht : P.underlying t = some (.slice e)) (hzs : z.cells.size = size) (hsz : 0 < size) (hby : 0 < bytes)
 (base : Nat) (v : Value) (n : Nat) (xs : List Value) (hs : a.eval s = v) (hown : w.ownsRow base e size v n xs)
 (cs : Array Value) (c : Nat) (t' : TypeId) (hx : a.eval x = .slice (some ⟨w.heap.size, 0, none⟩) 1 c) (hW : Same (w.alloc (.cells cs t')) W) (hl : cs.size = size) (h1 : ∀ u ∈ cs.toList, u.oneCell' = true)
 (hroom : (n + 1) * bytes ≤ 140737488355328) (hbase : base ≤ w.heap.size)
 (h : ∀ v' w', w'.ownsRow base e size v' (n + 1) (xs ++ cs.toList) → w.grownBy w' v.ownBlock → (v'.ownBlock = v.ownBlock ∨ v'.ownBlock = some (w.heap.size + 1)) → K (a.put o.dst v') w') :
 if Region.wanted o (yielded ops a.tmps) = true then Oper.wp P o a W K Q else E := by
 have hw : Region.wanted o (yielded ops a.tmps) = true := by simp [Region.wanted, hgd]
 rw [if_pos hw]
 exact wp_push s x t ho e z size bytes hinfo ht hzs hsz hby base v n xs hs hown cs c t' hx hW hl h1 hroom hbase h
def Apart (v : Value) (lo hi : Nat) : Prop := ∀ b, v.ownBlock = some b → b < lo ∨ hi ≤ b
theorem Apart.push {v v' : Value} {lo hi : Nat} {w : World} (h : Apart v lo hi) (hat : v'.ownBlock = v.ownBlock ∨ v'.ownBlock = some (w.heap.size + 1)) (hhi : hi ≤ w.heap.size) : Apart v' lo hi := by
 intro b hb
 rcases hat with e | e
 ·exact h b (by rw [← e]; exact hb)
 ·rw [e] at hb; injection hb with hb; right; omega
theorem Apart.of_own {w : World} {base : Nat} {e : TypeId} {size n : Nat} {v : Value} {xs : List Value} (h : w.ownsRow base e size v n xs) (hi : Nat) : Apart v w.heap.size hi := fun b hb => .inl (h.lt b hb).2
theorem Rds.apart {w w' : World} {lo hi size n : Nat} {v u : Value} {xs : List Value} (h : Rds w lo hi size v n xs) (ha : Apart u lo hi) (hg : w.grownBy w' u.ownBlock) (hhi : hi ≤ w.heap.size) : Rds w' lo hi size v n xs :=
 h.grown hg hhi fun g hgg => ha g hgg
theorem below_push {B : Nat} {w wo w1 : World} {e : TypeId} {size n : Nat} {v : Value} {xs : List Value} (hb : Below B w wo) (hB : B ≤ wo.heap.size) (hown : wo.ownsRow B e size v n xs) (hg : wo.grownBy w1 v.ownBlock) : Below B w w1 :=
 hb.grown hg hB fun k hk => (hown.lt k hk).1
theorem fill_set {α : Type} {A Z : List α} {k : Nat} {u : α} (h : A[k]? = some u) (hl : A.length = Z.length) : (A.take k ++ Z.drop k).set k u = A.take (k + 1) ++ Z.drop (k + 1) := by
 obtain ⟨hk, rfl⟩ := List.getElem?_eq_some_iff.1 h
 rw [List.set_append_right _ _ (by simp [List.length_take]; omega), List.length_take, Nat.min_eq_left (by omega), Nat.sub_self, List.drop_eq_getElem_cons (by omega), List.set_cons_zero, List.take_succ_eq_append_getElem hk, List.append_assoc]
 rfl
theorem fill_all {α : Type} {A Z : List α} (hl : A.length = Z.length) : A.take A.length ++ Z.drop A.length = A := by
 rw [List.take_length, List.drop_eq_nil_of_le (by omega), List.append_nil]
theorem fill_len {α : Type} {A Z : List α} {k : Nat} (hl : A.length = Z.length) (hk : k ≤ A.length) : (A.take k ++ Z.drop k).length = A.length := by
 simp [List.length_take]; omega
def Blk (w : World) (g : Nat) (t : TypeId) (cs : Array Value) : Prop := w.heap[g]? = some (.cells cs t (0, 0))
section
variable {w w' : World} {g : Nat} {t : TypeId} {cs : Array Value}
theorem Blk.lt (h : Blk w g t cs) : g < w.heap.size := by
 rcases Nat.lt_or_ge g w.heap.size with hlt | hge
 ·exact hlt
 ·unfold Blk at h; rw [Array.getElem?_eq_none hge] at h; cases h
theorem Blk.cell (h : Blk w g t cs) (i : Nat) : w.cell? ⟨g, i, none⟩ = cs[i]? := cell_of_row w g i cs t (0, 0) h
theorem Blk.frozen (h : Blk w g t cs) (i : Nat) : w.frozen? ⟨g, i, none⟩ = false := by
 unfold Blk at h
 simp [World.frozen?, h]
theorem Blk.new (w : World) (t : TypeId) (cs : Array Value) : Blk (w.alloc (.cells cs t)) w.heap.size t cs := heap_alloc_new w _
theorem Blk.newAt (w : World) (t : TypeId) (cs : Array Value) (g : Nat) (hg : g = w.heap.size) : Blk (w.alloc (.cells cs t)) g t cs := hg ▸ Blk.new w t cs
theorem Blk.drew (h : Blk w g t cs) : Blk w.drew g t cs := h
theorem Blk.drewN (h : Blk w g t cs) (n : Nat) : Blk (w.drewN n) g t cs := h
theorem Blk.alloc (h : Blk w g t cs) (o : Obj) : Blk (w.alloc o) g t cs := (Below.heap_alloc w o g h.lt).trans h
theorem Blk.set_ (h : Blk w g t cs) (i : Nat) (u : Value) : Blk (w.setCell ⟨g, i, none⟩ u) g t (cs.setIfInBounds i u) := by
 unfold Blk at h ⊢
 simp [World.setCell, Array.getElem?_modify, h]
theorem Blk.far (h : Blk w g t cs) {p : Addr} (hp : g ≠ p.block) (u : Value) : Blk (w.setCell p u) g t cs := (Below.heap_setCell w p u g hp).trans h
theorem Blk.below {B : Nat} (h : Blk w g t cs) (hb : Below B w w') (hg : g < B) : Blk w' g t cs := (hb.block g hg).trans h
theorem Blk.later (h : Blk w g t cs) (hb : Below w.heap.size w w') : Blk w' g t cs := h.below hb h.lt
theorem Blk.same (h : Blk w g t cs) (hs : Same w w') : Blk w' g t cs := by unfold Blk at h ⊢; rw [hs.heap]; exact h
theorem Blk.grown {row : Option Nat} (h : Blk w g t cs) (hb : w.grownBy w' row) (hg : some g ≠ row) : Blk w' g t cs := (hb.block g h.lt hg).trans h
end
theorem take_snoc_of {α : Type} {l : List α} {k : Nat} {z : α} (h : l[k]? = some z) : l.take (k + 1) = l.take k ++ [z] := by
 obtain ⟨hk, rfl⟩ := List.getElem?_eq_some_iff.1 h
 exact List.take_succ_eq_append_getElem hk
def byteAt (s : ByteArray) (i : Nat) : Nat := (s.data.toList.getD i 0).toNat
theorem byteAt_eq (s : ByteArray) (i : Nat) (h : i < s.size) : byteAt s i = s[i].toNat := by
 unfold byteAt
 rw [List.getD, List.getElem?_eq_getElem (by simpa using h)]
 rfl
end Go.Proofs.YtjeomamdlmoghaaGreatDoor
end
section
namespace Go.Proofs.YtjeomamdlmoghaaGreatDoor
open Go.RowKit
theorem Blk.all {w : World} {g : Nat} {t : TypeId} {cs : Array Value} (h : Blk w g t cs) : (∀ i, w.cell? ⟨g, i, none⟩ = cs[i]?) ∧ g < w.heap.size ∧ ∀ i, w.frozen? ⟨g, i, none⟩ = false := ⟨h.cell, h.lt, h.frozen⟩
end Go.Proofs.YtjeomamdlmoghaaGreatDoor
end
section
namespace Go.Proofs.YtjeomamdlmoghaaGreatDoor
open Go.RowKit Go.WideShapes Go.ChangeShapes
theorem ownKnob_none : ownKnob Tryz.prog.godebug = none := by kernel_rfl
section
variable {H : Type} {enc : TypeId × Value → H} {P : Program}
end
end Go.Proofs.YtjeomamdlmoghaaGreatDoor
end
section
namespace Go.Proofs.YtjeomamdlmoghaaGreatDoor
open Go.RowKit
inductive Dat where
 | int (k : IntKind) (n : Int)
 | str (s : ByteArray)
 | bool (b : Bool)
 | row (size n : Nat) (ds : List Dat)
mutual
def Rep (w : World) (lo hi : Nat) : Dat → Value → Prop
 | .int k n, v => v = .int k n
 | .str s, v => v = .string s
 | .bool b, v => v = .bool b
 | .row size n ds, v => ∃ vs, Rds w lo hi size v n vs ∧ RepL w lo hi ds vs
def RepL (w : World) (lo hi : Nat) : List Dat → List Value → Prop
 | [], vs => vs = []
 | d :: ds, vs => ∃ v vs', vs = v :: vs' ∧ Rep w lo hi d v ∧ RepL w lo hi ds vs'
end
section
variable {w w' : World} {lo hi : Nat}
mutual
theorem Rep.mono {lo' hi' : Nat} (hk : ∀ (size n : Nat) (v : Value) (vs : List Value), Rds w lo hi size v n vs → Rds w' lo' hi' size v n vs) : ∀ (d : Dat) (v : Value), Rep w lo hi d v → Rep w' lo' hi' d v
 | .int _ _, _, h => by simp only [Rep] at h ⊢; exact h
 | .str _, _, h => by simp only [Rep] at h ⊢; exact h
 | .bool _, _, h => by simp only [Rep] at h ⊢; exact h
 | .row size n ds, v, h => by
   simp only [Rep] at h ⊢
   obtain ⟨vs, h1, h2⟩ := h
   exact ⟨vs, hk _ _ _ _ h1, RepL.mono hk ds vs h2⟩
theorem RepL.mono {lo' hi' : Nat} (hk : ∀ (size n : Nat) (v : Value) (vs : List Value), Rds w lo hi size v n vs → Rds w' lo' hi' size v n vs) : ∀ (ds : List Dat) (vs : List Value), RepL w lo hi ds vs → RepL w' lo' hi' ds vs
 | [], _, h => by simp only [RepL] at h ⊢; exact h
 | d :: ds, _, h => by
   simp only [RepL] at h ⊢
   obtain ⟨v, vs', rfl, h1, h2⟩ := h
   exact ⟨v, vs', rfl, Rep.mono hk d v h1, RepL.mono hk ds vs' h2⟩
end
theorem Rep.keep {d : Dat} {v : Value} (h : Rep w lo hi d v) (hk : ∀ p : Addr, lo ≤ p.block → p.block < hi → w'.cell? p = w.cell? p) : Rep w' lo hi d v := Rep.mono (fun _ _ _ _ hr => hr.keep hk) d v h
theorem RepL.keep {ds : List Dat} {vs : List Value} (h : RepL w lo hi ds vs) (hk : ∀ p : Addr, lo ≤ p.block → p.block < hi → w'.cell? p = w.cell? p) : RepL w' lo hi ds vs := RepL.mono (fun _ _ _ _ hr => hr.keep hk) ds vs h
theorem Rep.below {B : Nat} {d : Dat} {v : Value} (h : Rep w lo hi d v) (hb : Below B w w') (hB : hi ≤ B) : Rep w' lo hi d v := h.keep fun _ _ hp => hb.cell (by omega)
theorem RepL.below {B : Nat} {ds : List Dat} {vs : List Value} (h : RepL w lo hi ds vs) (hb : Below B w w') (hB : hi ≤ B) : RepL w' lo hi ds vs := h.keep fun _ _ hp => hb.cell (by omega)
theorem Rep.same {d : Dat} {v : Value} (h : Rep w lo hi d v) (hs : Same w w') : Rep w' lo hi d v := h.keep fun p _ _ => hs.cell p
theorem RepL.same {ds : List Dat} {vs : List Value} (h : RepL w lo hi ds vs) (hs : Same w w') : RepL w' lo hi ds vs := h.keep fun p _ _ => hs.cell p
theorem Rep.wide {lo' hi' : Nat} {d : Dat} {v : Value} (h : Rep w lo hi d v) (h1 : lo' ≤ lo) (h2 : hi ≤ hi') : Rep w lo' hi' d v := Rep.mono (fun _ _ _ _ hr => hr.wide h1 h2) d v h
theorem RepL.wide {lo' hi' : Nat} {ds : List Dat} {vs : List Value} (h : RepL w lo hi ds vs) (h1 : lo' ≤ lo) (h2 : hi ≤ hi') : RepL w lo' hi' ds vs := RepL.mono (fun _ _ _ _ hr => hr.wide h1 h2) ds vs h
theorem Rep.alloc {d : Dat} {v : Value} (h : Rep w lo hi d v) (hB : hi ≤ w.heap.size) (o : Obj) : Rep (w.alloc o) lo hi d v := h.below ((Below.refl w.heap.size w).alloc (Nat.le_refl _) o) hB
theorem RepL.alloc {ds : List Dat} {vs : List Value} (h : RepL w lo hi ds vs) (hB : hi ≤ w.heap.size) (o : Obj) : RepL (w.alloc o) lo hi ds vs := h.below ((Below.refl w.heap.size w).alloc (Nat.le_refl _) o) hB
theorem Rep.setFar {d : Dat} {v : Value} (h : Rep w lo hi d v) {p : Addr} (hp : p.block < lo ∨ hi ≤ p.block) (u : Value) : Rep (w.setCell p u) lo hi d v := Rep.mono (fun _ _ _ _ hr => hr.setFar hp u) d v h
theorem RepL.setFar {ds : List Dat} {vs : List Value} (h : RepL w lo hi ds vs) {p : Addr} (hp : p.block < lo ∨ hi ≤ p.block) (u : Value) : RepL (w.setCell p u) lo hi ds vs := RepL.mono (fun _ _ _ _ hr => hr.setFar hp u) ds vs h
theorem Rep.grown {row : Option Nat} {d : Dat} {v : Value} (h : Rep w lo hi d v) (hg : w.grownBy w' row) (hB : hi ≤ w.heap.size) (hr : ∀ g, row = some g → g < lo ∨ hi ≤ g) : Rep w' lo hi d v := Rep.mono (fun _ _ _ _ h => h.grown hg hB hr) d v h
theorem RepL.grown {row : Option Nat} {ds : List Dat} {vs : List Value} (h : RepL w lo hi ds vs) (hg : w.grownBy w' row) (hB : hi ≤ w.heap.size) (hr : ∀ g, row = some g → g < lo ∨ hi ≤ g) : RepL w' lo hi ds vs := RepL.mono (fun _ _ _ _ h => h.grown hg hB hr) ds vs h
theorem RepL.len : ∀ {ds : List Dat} {vs : List Value}, RepL w lo hi ds vs → vs.length = ds.length
 | [], _, h => by simp only [RepL] at h; subst h; rfl
 | _ :: ds, _, h => by
   simp only [RepL] at h
   obtain ⟨v, vs', rfl, _, h2⟩ := h
   simp [RepL.len h2]
theorem RepL.app : ∀ {ds es : List Dat} {vs us : List Value}, RepL w lo hi ds vs → RepL w lo hi es us → RepL w lo hi (ds ++ es) (vs ++ us)
 | [], _, _, _, h, h' => by simp only [RepL] at h; subst h; exact h'
 | _ :: ds, _, _, _, h, h' => by
   simp only [RepL, List.cons_append] at h ⊢
   obtain ⟨v, vs', rfl, h1, h2⟩ := h
   exact ⟨v, vs' ++ _, rfl, h1, RepL.app h2 h'⟩
theorem RepL.parts : ∀ {ds es : List Dat} {vs : List Value}, RepL w lo hi (ds ++ es) vs → RepL w lo hi ds (vs.take ds.length) ∧ RepL w lo hi es (vs.drop ds.length)
 | [], _, _, h => by simpa [RepL] using h
 | d :: ds, _, _, h => by
   simp only [RepL, List.cons_append] at h ⊢
   obtain ⟨v, vs', rfl, h1, h2⟩ := h
   obtain ⟨g1, g2⟩ := RepL.parts h2
   exact ⟨⟨v, _, by simp, h1, g1⟩, by simpa using g2⟩
theorem RepL.nil_ : RepL w lo hi [] [] := by simp only [RepL]
theorem RepL.cons_ {d : Dat} {ds : List Dat} {v : Value} {vs : List Value} (h : Rep w lo hi d v) (h' : RepL w lo hi ds vs) : RepL w lo hi (d :: ds) (v :: vs) := by simp only [RepL]; exact ⟨v, vs, rfl, h, h'⟩
theorem RepL.out {d : Dat} {ds : List Dat} {vs : List Value} (h : RepL w lo hi (d :: ds) vs) : ∃ v vs', vs = v :: vs' ∧ Rep w lo hi d v ∧ RepL w lo hi ds vs' := by simpa only [RepL] using h
theorem RepL.outNil {vs : List Value} (h : RepL w lo hi [] vs) : vs = [] := by simpa only [RepL] using h
theorem Rep.int_ {k : IntKind} {n : Int} {v : Value} (h : Rep w lo hi (.int k n) v) : v = .int k n := by simpa only [Rep] using h
theorem Rep.str_ {s : ByteArray} {v : Value} (h : Rep w lo hi (.str s) v) : v = .string s := by simpa only [Rep] using h
theorem Rep.bool_ {b : Bool} {v : Value} (h : Rep w lo hi (.bool b) v) : v = .bool b := by simpa only [Rep] using h
theorem Rep.row_ {size n : Nat} {ds : List Dat} {v : Value} (h : Rep w lo hi (.row size n ds) v) : ∃ vs, Rds w lo hi size v n vs ∧ RepL w lo hi ds vs := by simpa only [Rep] using h
theorem Rep.mkInt {k : IntKind} {n : Int} : Rep w lo hi (.int k n) (.int k n) := by simp only [Rep]
theorem Rep.mkStr {s : ByteArray} : Rep w lo hi (.str s) (.string s) := by simp only [Rep]
theorem Rep.mkBool {b : Bool} : Rep w lo hi (.bool b) (.bool b) := by simp only [Rep]
theorem Rep.mkRow {size n : Nat} {ds : List Dat} {v : Value} {vs : List Value} (h : Rds w lo hi size v n vs) (h' : RepL w lo hi ds vs) : Rep w lo hi (.row size n ds) v := by simp only [Rep]; exact ⟨vs, h, h'⟩
theorem Rep.shape {size n : Nat} {ds : List Dat} {v : Value} (h : Rep w lo hi (.row size n ds) v) : ∃ A c, v = .slice A n c ∧ n ≤ c ∧ c ≤ maxLen ∧ ds.length = n * size := by
 obtain ⟨vs, h1, h2⟩ := h.row_
 obtain ⟨A, c, hv, g1, g2, g3⟩ := h1.shape
 exact ⟨A, c, hv, g1, g2, by rw [← h2.len, g3]⟩
theorem Rep.elem {size n j : Nat} {ds a e b : List Dat} {A : Option Addr} {c : Nat} (h : Rep w lo hi (.row size n ds) (.slice A n c)) (hj : j < n) (hds : ds = a ++ (e ++ b)) (ha : a.length = j * size) (he : e.length = size) :
 ∃ g off us, A = some ⟨g, off, none⟩ ∧ lo ≤ g ∧ g < hi ∧ us.length = size ∧ RepL w lo hi e us ∧ ∀ i u, us[i]? = some u → w.cell? ⟨g, off + j * size + i, none⟩ = some u := by
 obtain ⟨vs, h1, h2⟩ := h.row_
 subst hds
 obtain ⟨-, g2⟩ := h2.parts
 obtain ⟨g3, -⟩ := g2.parts
 obtain ⟨A', c', hv, k1, k2, k3, -, k4⟩ := h1
 injection hv with hA _ hc
 subst hA hc
 obtain ⟨g, off, hA, hg1, hg2, hcell⟩ := k4 (by omega)
 refine ⟨g, off, _, hA, hg1, hg2, by rw [g3.len, he], g3, fun i u hu => ?_⟩
 rw [List.getElem?_take] at hu
 split at hu
 ·rw [List.getElem?_drop, ha] at hu
  rw [Nat.add_assoc]
  exact hcell _ u hu
 ·cases hu
end
def ARep (w : World) (lo hi : Nat) (ds : List Dat) (x : Value) : Prop := ∃ cs : List Value, x = .agg cs.toArray ∧ RepL w lo hi ds cs
section
variable {w w' : World} {lo hi : Nat} {ds : List Dat} {x : Value}
theorem ARep.keep (h : ARep w lo hi ds x) (hk : ∀ p : Addr, lo ≤ p.block → p.block < hi → w'.cell? p = w.cell? p) : ARep w' lo hi ds x := by obtain ⟨cs, hx, h1⟩ := h; exact ⟨cs, hx, h1.keep hk⟩
theorem ARep.below {B : Nat} (h : ARep w lo hi ds x) (hb : Below B w w') (hB : hi ≤ B) : ARep w' lo hi ds x := h.keep fun _ _ hp => hb.cell (by omega)
theorem ARep.same (h : ARep w lo hi ds x) (hs : Same w w') : ARep w' lo hi ds x := h.keep fun p _ _ => hs.cell p
theorem ARep.wide {lo' hi' : Nat} (h : ARep w lo hi ds x) (h1 : lo' ≤ lo) (h2 : hi ≤ hi') : ARep w lo' hi' ds x := by obtain ⟨cs, hx, g⟩ := h; exact ⟨cs, hx, g.wide h1 h2⟩
theorem ARep.alloc (h : ARep w lo hi ds x) (hB : hi ≤ w.heap.size) (o : Obj) : ARep (w.alloc o) lo hi ds x := h.below ((Below.refl w.heap.size w).alloc (Nat.le_refl _) o) hB
theorem ARep.setFar (h : ARep w lo hi ds x) {p : Addr} (hp : p.block < lo ∨ hi ≤ p.block) (u : Value) : ARep (w.setCell p u) lo hi ds x := by obtain ⟨cs, hx, g⟩ := h; exact ⟨cs, hx, g.setFar hp u⟩
theorem ARep.grown {row : Option Nat} (h : ARep w lo hi ds x) (hg : w.grownBy w' row) (hB : hi ≤ w.heap.size) (hr : ∀ g, row = some g → g < lo ∨ hi ≤ g) : ARep w' lo hi ds x := by obtain ⟨cs, hx, g⟩ := h; exact ⟨cs, hx, g.grown hg hB hr⟩
end
def putAll (w : World) (g : Nat) : Nat → List Value → World
 | _, [] => w
 | p, u :: us => putAll (w.setCell ⟨g, p, none⟩ u) g (p + 1) us
def setAll : List Value → Nat → List Value → List Value
 | xs, _, [] => xs
 | xs, p, u :: us => setAll (xs.set p u) (p + 1) us
theorem own_putAll {base : Nat} {e : TypeId} {size n cap g : Nat} : ∀ (us : List Value) (w : World) (xs : List Value) (p : Nat), w.ownsRow base e size (.slice (some ⟨g, 0, none⟩) n cap) n xs → (putAll w g p us).ownsRow base e size (.slice (some ⟨g, 0, none⟩) n cap) n (setAll xs p us)
 | [], _, _, _, h => h
 | u :: us, _, _, p, h => own_putAll us _ _ (p + 1) (h.stored p u).1
theorem below_putAll {B g : Nat} (hg : B ≤ g) : ∀ (us : List Value) (w0 w : World) (p : Nat), Below B w0 w → Below B w0 (putAll w g p us)
 | [], _, _, _, h => h
 | u :: us, _, _, p, h => below_putAll hg us _ _ (p + 1) (h.setCell (p := ⟨g, p, none⟩) hg u)
theorem putAll_size (g : Nat) : ∀ (us : List Value) (w : World) (p : Nat), (putAll w g p us).heap.size = w.heap.size
 | [], _, _ => rfl
 | u :: us, w, p => (putAll_size g us _ (p + 1)).trans (by simp [World.setCell])
theorem RepL.putAll {lo hi g : Nat} {ds : List Dat} {vs : List Value} (hg : g < lo ∨ hi ≤ g) : ∀ (us : List Value) (w : World) (p : Nat), RepL w lo hi ds vs → RepL (putAll w g p us) lo hi ds vs
 | [], _, _, h => h
 | u :: us, _, p, h => RepL.putAll hg us _ (p + 1) (h.setFar (p := ⟨g, p, none⟩) hg u)
theorem setAll_fill {Z : List Value} : ∀ (us vs : List Value) (p : Nat), vs.length = p → p + us.length ≤ Z.length → setAll (vs ++ Z.drop p) p us = (vs ++ us) ++ Z.drop (p + us.length)
 | [], vs, p, _, _ => by simp [setAll]
 | u :: us, vs, p, hv, hz => by
   simp only [List.length_cons] at hz
   rw [setAll]
   have e : (vs ++ Z.drop p).set p u = (vs ++ [u]) ++ Z.drop (p + 1) := by
    rw [List.set_append_right _ _ (by omega), hv, Nat.sub_self, List.drop_eq_getElem_cons (by omega), List.set_cons_zero]
    simp
   rw [e, setAll_fill us (vs ++ [u]) (p + 1) (by simp [hv]) (by omega)]
   simp [Nat.add_assoc, Nat.add_comm 1]
theorem own_later {w w' : World} {base : Nat} {e : TypeId} {size n : Nat} {v : Value} {xs : List Value} (h : w.ownsRow base e size v n xs) (hb : Below w.heap.size w w') : w'.ownsRow base e size v n xs :=
 h.kept (grown_of_below hb none) (by cases v.ownBlock <;> simp)
theorem own_at {w : World} {base : Nat} {e : TypeId} {size n g cap : Nat} {xs : List Value} (h : w.ownsRow base e size (.slice (some ⟨g, 0, none⟩) n cap) n xs) (j : Nat) (hj : j < n * size) : (∃ u, w.cell? ⟨g, j, none⟩ = some u) ∧ w.frozen? ⟨g, j, none⟩ = false :=
 ⟨⟨_, (h.cellAt j hj).trans (List.getElem?_eq_getElem (by rw [h.1]; exact hj))⟩, h.frozenAt j⟩
end Go.Proofs.YtjeomamdlmoghaaGreatDoor
end
