/- Words for memory: a slice that reads as a list of cells, nil let in; Y0 with the same heap. Plain lemmas, no program. -/
import Derived.WalkKit
import Derived.WalkSpells
import Derived.WalkLawsBesides
import Derived.Lib.Hide
import Derived.Deep.QuietTactic
import Derived.BigQuiet
import Derived.Deep.AppendLies
import Derived.Deep.Draws
import Derived.Maps.AppendAt
import Derived.RegionTactic
import Derived.OwnWalk
set_option maxRecDepth 100000
set_option maxHeartbeats 8000000
set_option linter.unusedVariables false
set_option linter.unusedSimpArgs false
namespace Go.Proofs.YthbcamfejgghhaaGreatDoor
open Go.IntKind (i64)
open Go.RowKit
section
theorem bD {a b : Bool} (h : a = b) : Ending.returned (.bool a) = .returned (.bool b) := by rw [h]
theorem pU {k : IntKind} {a b : Int} (h : a = b) : Ending.returned (.int k a) = .returned (.int k b) := by rw [h]
theorem qj {a b : ByteArray} (h : a = b) : Ending.returned (.string a) = .returned (.string b) := by rw [h]
structure Same (w w' : World) : Prop where
 os : w'.os = w.os
 tape : w'.tape = w.tape
 output : w'.output = w.output
 heap : w'.heap = w.heap
theorem Same.refl (w : World) : Same w w := ⟨rfl, rfl, rfl, rfl⟩
theorem Same.trans {a b c : World} (h : Same a b) (k : Same b c) : Same a c := ⟨k.os.trans h.os, k.tape.trans h.tape, k.output.trans h.output, k.heap.trans h.heap⟩
theorem Same.drew {a w : World} (h : Same a w) : Same a w.drew := ⟨h.os, h.tape, h.output, h.heap⟩
theorem Same.drewN {a w : World} (h : Same a w) (n : Nat) : Same a (w.drewN n) := ⟨h.os, h.tape, h.output, h.heap⟩
theorem Same.below {a w : World} (h : Same a w) (B : Nat) : Below B a w := ⟨h.os, h.tape, h.output, by rw [h.heap]; exact Nat.le_refl _, fun k _ => by rw [h.heap]⟩
theorem Same.cell {a w : World} (h : Same a w) (p : Addr) : w.cell? p = a.cell? p := by simp [World.cell?, h.heap]
theorem Same.frozen {a w : World} (h : Same a w) (p : Addr) : w.frozen? p = a.frozen? p := by simp [World.frozen?, h.heap]
theorem Same.size {a w : World} (h : Same a w) : w.heap.size = a.heap.size := by rw [h.heap]
theorem Same.own {a w : World} (h : Same a w) {base : Nat} {e : TypeId} {size : Nat} {v : Value} {n : Nat} {xs : List Value} (ho : a.ownsRow base e size v n xs) : w.ownsRow base e size v n xs := by
 unfold World.ownsRow at ho ⊢; rw [h.heap]; exact ho
theorem Same.grown {a w : World} (h : Same a w) (row : Option Nat) : a.grownBy w row := ⟨h.os, h.tape, h.output, by rw [h.heap]; exact Nat.le_refl _, fun k _ _ => by rw [h.heap]⟩
theorem dJ {a b c : World} {row : Option Nat} (h : a.grownBy b row) (k : b.grownBy c row) : a.grownBy c row :=
 ⟨k.os.trans h.os, k.tape.trans h.tape, k.output.trans h.output, Nat.le_trans h.size k.size, fun i hi hne => (k.block i (Nat.lt_of_lt_of_le hi h.size) hne).trans (h.block i hi hne)⟩
theorem iE {a w : World} (h : Below a.heap.size a w) (row : Option Nat) : a.grownBy w row := ⟨h.os, h.tape, h.output, h.size, fun i hi _ => h.block i hi⟩
theorem uF {B : Nat} {a w : World} {row : Option Nat} (h : a.grownBy w row) (hB : B ≤ a.heap.size) (hr : ∀ g, row = some g → B ≤ g) : Below B a w := (Below.refl B a).grown h hB hr
def marks (f : Int → Value) (k : Int) (n : Nat) : List Value := (List.range n).map fun (i : Nat) => f (k + (i : Int))
def Rds (w : World) (lo hi size : Nat) (v : Value) (n : Nat) (xs : List Value) : Prop :=
 ∃ A c, v = .slice A n c ∧ n ≤ c ∧ c ≤ maxLen ∧ xs.length = n * size ∧ (A = none → c = 0) ∧
  (0 < n → ∃ g off, A = some ⟨g, off, none⟩ ∧ lo ≤ g ∧ g < hi ∧ ∀ j u, xs[j]? = some u → w.cell? ⟨g, off + j, none⟩ = some u)
section
variable {w w' : World} {lo hi size n : Nat} {v : Value} {xs : List Value}
theorem Rds.keep (h : Rds w lo hi size v n xs) (hk : ∀ p : Addr, lo ≤ p.block → p.block < hi → w'.cell? p = w.cell? p) : Rds w' lo hi size v n xs := by
 obtain ⟨A, c, hv, h1, h2, h3, h5, h4⟩ := h
 refine ⟨A, c, hv, h1, h2, h3, h5, fun hn => ?_⟩
 obtain ⟨g, off, hA, hg1, hg2, hc⟩ := h4 hn
 exact ⟨g, off, hA, hg1, hg2, fun j u hu => (hk _ hg1 hg2).trans (hc j u hu)⟩
theorem Rds.same (h : Rds w lo hi size v n xs) (hs : Same w w') : Rds w' lo hi size v n xs := h.keep fun p _ _ => hs.cell p
theorem Rds.below {B : Nat} (h : Rds w lo hi size v n xs) (hb : Below B w w') (hB : hi ≤ B) : Rds w' lo hi size v n xs := h.keep fun _ _ hp => hb.cell (by omega)
theorem Rds.grown {row : Option Nat} (h : Rds w lo hi size v n xs) (hg : w.grownBy w' row) (hB : hi ≤ w.heap.size) (hr : ∀ g, row = some g → g < lo ∨ hi ≤ g) : Rds w' lo hi size v n xs :=
 h.keep fun p h1 h2 => World.cell?_of_block (hg.block p.block (by omega) (fun e => by have := hr _ e.symm; omega))
theorem Rds.wide {lo' hi' : Nat} (h : Rds w lo hi size v n xs) (h1 : lo' ≤ lo) (h2 : hi ≤ hi') : Rds w lo' hi' size v n xs := by
 obtain ⟨A, c, hv, g1, g2, g3, g5, g4⟩ := h
 refine ⟨A, c, hv, g1, g2, g3, g5, fun hn => ?_⟩
 obtain ⟨g, off, hA, hg1, hg2, hc⟩ := g4 hn
 exact ⟨g, off, hA, by omega, by omega, hc⟩
theorem Rds.alloc (h : Rds w lo hi size v n xs) (hB : hi ≤ w.heap.size) (o : Obj) : Rds (w.alloc o) lo hi size v n xs := h.below ((Below.refl w.heap.size w).alloc (Nat.le_refl _) o) hB
theorem Rds.gQ (h : Rds w lo hi size v n xs) {p : Addr} (hp : p.block < lo ∨ hi ≤ p.block) (u : Value) : Rds (w.setCell p u) lo hi size v n xs :=
 h.keep fun q h1 h2 => World.cell?_setCell_other w p q u (fun e => by subst e; omega)
theorem Rds.none_ : Rds w lo hi size (.slice none 0 0) 0 [] := ⟨none, 0, rfl, Nat.le_refl _, Nat.zero_le _, by simp, fun _ => rfl, fun h => absurd h (by omega)⟩
theorem Rds.dU {base : Nat} {e : TypeId} (h : w.ownsRow base e size v n xs) : Rds w base w.heap.size size v n xs := by
 have hl := h.1
 rcases h.2 with ⟨rfl, rfl⟩ | ⟨g, cap, cur, rfl, hb, hg, hnc, hcm, hsz, htake⟩
 ·refine ⟨none, 0, rfl, Nat.le_refl _, Nat.zero_le _, h.1, fun _ => rfl, fun h => absurd h (by omega)⟩
 refine ⟨_, cap, rfl, hnc, hcm, hl, (fun h => by cases h), fun hn => ⟨g, 0, rfl, hb, (Array.getElem?_eq_some_iff.1 hg).1, fun j u hu => ?_⟩⟩
 have := h.cells (g := g) rfl j u hu
 rwa [Addr.add_lit] at this
theorem Rds.at_ {A : Option Addr} {c k : Nat} (h : Rds w lo hi 1 (.slice A n c) n xs) (hk : k < n) : ∃ g off u, A = some ⟨g, off, none⟩ ∧ lo ≤ g ∧ g < hi ∧ xs[k]? = some u ∧ w.cell? ⟨g, off + k, none⟩ = some u := by
 obtain ⟨A', c', hv, h1, h2, h3, -, h4⟩ := h
 injection hv with hA _ hc
 subst hA hc
 obtain ⟨g, off, hA, hg1, hg2, hcell⟩ := h4 (by omega)
 have hl : k < xs.length := by omega
 exact ⟨g, off, xs[k], hA, hg1, hg2, List.getElem?_eq_getElem hl, hcell k _ (List.getElem?_eq_getElem hl)⟩
theorem Rds.Rm {α : Type} {f : α → Value} {l : List α} {A : Option Addr} {c k : Nat} (h : Rds w lo hi 1 (.slice A n c) n (l.map f)) (hk : k < n) :
 ∃ g off z, A = some ⟨g, off, none⟩ ∧ lo ≤ g ∧ g < hi ∧ l[k]? = some z ∧ w.cell? ⟨g, off + k, none⟩ = some (f z) := by
 obtain ⟨g, off, u, hA, h1, h2, hu, hc⟩ := h.at_ hk
 rw [List.getElem?_map] at hu
 cases hz : l[k]? with
 | none => rw [hz] at hu; cases hu
 | some z => rw [hz] at hu; injection hu with hu; subst hu; exact ⟨g, off, z, hA, h1, h2, rfl, hc⟩
theorem Rds.shape (h : Rds w lo hi size v n xs) : ∃ A c, v = .slice A n c ∧ n ≤ c ∧ c ≤ maxLen ∧ xs.length = n * size := by
 obtain ⟨A, c, hv, h1, h2, h3, _⟩ := h; exact ⟨A, c, hv, h1, h2, h3⟩
theorem Rds.len (h : Rds w lo hi size v n xs) : xs.length = n * size := by obtain ⟨A, c, hv, h1, h2, h3, _⟩ := h; exact h3
theorem Rds.Vm {A : Option Addr} {c : Nat} (h : Rds w lo hi size (.slice A n c) n xs) (hA : A = none) : n = 0 ∧ c = 0 := by
 obtain ⟨A', c', hv, h1, h2, h3, h5, _⟩ := h
 injection hv with e1 _ e3
 subst e1 e3
 have := h5 hA; omega
theorem Rds.cells {A : Option Addr} {c : Nat} (h : Rds w lo hi size (.slice A n c) n xs) : ∀ b, A = some b → ∀ j u, xs[j]? = some u → w.cell? (b.add j) = some u := by
 obtain ⟨A', c', hv, h1, h2, h3, h5, h4⟩ := h
 injection hv with e1 _ e3
 subst e1 e3
 intro b hb j u hu
 have hj : j < xs.length := (List.getElem?_eq_some_iff.1 hu).1
 have hn : 0 < n := by
  rcases Nat.eq_zero_or_pos n with h0 | h0
  ·subst h0; simp at h3; subst h3; simp at hj
  exact h0
 obtain ⟨g, off, hA, _, _, hc⟩ := h4 hn
 rw [hb] at hA
 injection hA with hA
 subst hA
 rw [Addr.add_lit]
 exact hc j u hu
end
section
variable {P : Program} (w : World)
theorem yV (base : Nat) (t ty e : TypeId) (i : TypeInfo) (size : Nat) (ht : P.underlying t = some (.slice e)) (hi : P.info? e = some i)
 (v : Value) (n : Nat) (xs : List Value) (hown : w.ownsRow base e size v n xs) (c : Nat) : (Builtin.append_ #[t, t] ty #[v, .slice none 0 c]).run P w = .ok v w := by
 rcases hown.2 with ⟨rfl, rfl⟩ | ⟨g, cap, cur, rfl, _, _, hnc, _⟩
 ·simp [Builtin.append_, run_underlying ht, sizeOf, typeInfo, hi, Builtin.lenOf, Builtin.firstCells]
 simp [Builtin.append_, run_underlying ht, sizeOf, typeInfo, hi, Builtin.lenOf, Builtin.firstCells, hnc, storeCells]
theorem C6 (base : Nat) (t ty e : TypeId) (i : TypeInfo) (z : Value) (size bytes : Nat) (ht : P.underlying t = some (.slice e)) (hi : P.info? e = some i) (hz : i.zero = some z)
 (hsize : i.size = size) (hby : i.bytes = bytes) (hzs : z.cells.size = size) (hsz : 0 < size)
 (v : Value) (n : Nat) (xs : List Value) (hown : w.ownsRow base e size v n xs)
 (lo hi' : Nat) (u : Value) (m : Nat) (news : List Value) (hr : Rds w lo hi' size u m news) (h1 : ∀ u ∈ news, u.oneCell' = true)
 (h63 : n + m ≤ maxLen) (hbytes : (n + m) * bytes ≤ 140737488355328) (hbase : base ≤ w.heap.size) :
 ∃ v' w', (Builtin.append_ #[t, t] ty #[v, u]).run P w = .ok v' w' ∧ w'.ownsRow base e size v' (n + m) (xs ++ news) ∧ w.grownBy w' v.ownBlock ∧
  (v'.ownBlock = v.ownBlock ∨ v'.ownBlock = some w.heap.size) := by
 obtain ⟨A, c, rfl, _, _, hlen⟩ := hr.shape
 rcases A with _ | ad
 ·obtain ⟨rfl, rfl⟩ := hr.Vm rfl
  have hn : news = [] := List.eq_nil_of_length_eq_zero (by simpa using hlen)
  subst hn
  exact ⟨v, w, yV w base t ty e i size ht hi v n xs hown 0, by simpa using hown, World.grownBy.refl w _, .inl rfl⟩
 obtain ⟨v', w', hrun, h2, h3, _, h5⟩ := run_append_own_at (P := P) w base t ty e i z size bytes ht hi hz hsize hby hzs hsz v n xs hown ad m c news hlen (hr.cells ad rfl) h1 h63 hbytes hbase
 exact ⟨v', w', hrun, h2, h3, h5⟩
theorem lK {o : Oper} {a : Act} {K : Act → World → Prop} {Q : Exit → Act → World → Prop} (s x : Operand) (t : TypeId)
 (ho : o.op = .call { callee := .builtin .append, args := #[s, x], argTypes := #[t, t] })
 (base : Nat) (e : TypeId) (i : TypeInfo) (z : Value) (size bytes : Nat) (ht : P.underlying t = some (.slice e)) (hi : P.info? e = some i) (hz : i.zero = some z)
 (hsize : i.size = size) (hby : i.bytes = bytes) (hzs : z.cells.size = size) (hsz : 0 < size)
 (v : Value) (n : Nat) (xs : List Value) (hs : a.eval s = v) (hown : w.ownsRow base e size v n xs)
 (lo hi' : Nat) (u : Value) (m : Nat) (news : List Value) (hx : a.eval x = u) (hr : Rds w lo hi' size u m news) (h1 : ∀ u ∈ news, u.oneCell' = true)
 (h63 : n + m ≤ maxLen) (hbytes : (n + m) * bytes ≤ 140737488355328) (hbase : base ≤ w.heap.size)
 (h : ∀ v' w', w'.ownsRow base e size v' (n + m) (xs ++ news) → w.grownBy w' v.ownBlock → (v'.ownBlock = v.ownBlock ∨ v'.ownBlock = some w.heap.size) → K (a.put o.dst v') w') : o.wp P a w K Q := by
 obtain ⟨v', w', hrun, h2, h3, h4⟩ := C6 (P := P) w base t o.type e i z size bytes ht hi hz hsize hby hzs hsz v n xs hown lo hi' u m news hr h1 h63 hbytes hbase
 unfold Oper.wp execOp
 simp only [ho, resolve, invoke, builtin, Sem.run_bind, Sem.run_pure, Result.andThen_ok, List.map_toArray, List.map_cons, List.map_nil, hs, hx, hrun]
 exact h v' w' h2 h3 h4
theorem nu {ops : Array Oper} {rest : List Oper} {o : Oper} {a : Act} {Q : Exit → Act → World → Prop} (hgd : o.guard = none) (s x : Operand) (t : TypeId)
 (ho : o.op = .call { callee := .builtin .append, args := #[s, x], argTypes := #[t, t] })
 (base : Nat) (e : TypeId) (i : TypeInfo) (z : Value) (size bytes : Nat) (ht : P.underlying t = some (.slice e)) (hi : P.info? e = some i) (hz : i.zero = some z)
 (hsize : i.size = size) (hby : i.bytes = bytes) (hzs : z.cells.size = size) (hsz : 0 < size)
 (v : Value) (n : Nat) (xs : List Value) (hs : a.eval s = v) (hown : w.ownsRow base e size v n xs)
 (lo hi' : Nat) (u : Value) (m : Nat) (news : List Value) (hx : a.eval x = u) (hr : Rds w lo hi' size u m news) (h1 : ∀ u ∈ news, u.oneCell' = true)
 (h63 : n + m ≤ maxLen) (hbytes : (n + m) * bytes ≤ 140737488355328) (hbase : base ≤ w.heap.size)
 (h : ∀ v' w', w'.ownsRow base e size v' (n + m) (xs ++ news) → w.grownBy w' v.ownBlock → (v'.ownBlock = v.ownBlock ∨ v'.ownBlock = some w.heap.size) → wpList P ops Q rest (a.put o.dst v') w') : wpList P ops Q (o :: rest) a w :=
 wpList_plain hgd fun _ hK => lK w s x t ho base e i z size bytes ht hi hz hsize hby hzs hsz v n xs hs hown lo hi' u m news hx hr h1 h63 hbytes hbase fun v' w' h2 h3 h4 => hK _ _ (h v' w' h2 h3 h4)
end
theorem qV {P : Program} (src dst e : TypeId) (hs : P.underlying src = some (.slice e)) (he : P.underlying e = some (.int .u8)) (hd : P.underlying dst = some .string) (w : World) (x : Int) (c : Nat) (t : TypeId) :
 (convert src dst (.slice (some ⟨w.heap.size, 0, none⟩) 1 c)).run P (w.alloc (.cells #[.int .u8 x] t)) = .ok (.string ⟨#[UInt8.ofNat x.toNat]⟩) (w.alloc (.cells #[.int .u8 x] t)) := by
 have hl := run_loadCells_list (P := P) (w.alloc (.cells #[.int .u8 x] t)) ⟨w.heap.size, 0, none⟩ [.int .u8 x] (cell_one_new w _ t)
 rw [run_convert_bytes_string _ src dst e _ 1 c hs he hd, run_bytesToString _ _ 1 c [x] (by simpa using hl)]
 rfl
theorem GD {x y : ByteArray} (h : ¬ x = y) : (x.toList == y.toList) = false := by
 rw [ByteArray.toList_eq, ByteArray.toList_eq, beq_eq_false_iff_ne]
 intro e
 apply h
 apply ByteArray.ext
 exact Array.toList_inj.1 e
theorem str_eq (x : ByteArray) : (x.toList == x.toList) = true := by simp
theorem Rn {P : Program} (w W : World) (t ty e : TypeId) (z : Value) (size bytes : Nat) (hinfo : (P.info? e).map (fun i => (i.zero, i.size, i.bytes)) = some (some z, size, bytes)) (ht : P.underlying t = some (.slice e)) (hzs : z.cells.size = size) (hsz : 0 < size) (hby : 0 < bytes)
 (base : Nat) (v : Value) (n : Nat) (xs : List Value) (hown : w.ownsRow base e size v n xs)
 (cs : Array Value) (c : Nat) (t' : TypeId) (hW : Same (w.alloc (.cells cs t')) W) (hl : cs.size = size) (h1 : ∀ u ∈ cs.toList, u.oneCell' = true)
 (hroom : (n + 1) * bytes ≤ 140737488355328) (hbase : base ≤ w.heap.size) :
 ∃ v' w', (Builtin.append_ #[t, t] ty #[v, .slice (some ⟨w.heap.size, 0, none⟩) 1 c]).run P W = .ok v' w' ∧ w'.ownsRow base e size v' (n + 1) (xs ++ cs.toList) ∧ w.grownBy w' v.ownBlock ∧
  (v'.ownBlock = v.ownBlock ∨ v'.ownBlock = some (w.heap.size + 1)) := by
 obtain ⟨i0, hi0, hz0, hz1, hz2⟩ := info_parts hinfo
 have hn : n + 1 ≤ (n + 1) * bytes := Nat.le_mul_of_pos_right _ hby
 have hWs : W.heap.size = w.heap.size + 1 := by rw [hW.size]; simp
 obtain ⟨v', w', hr, ho, hg, -, hat⟩ := run_append_own_at (P := P) W base t ty e i0 z size bytes ht hi0 hz0 hz1 hz2 hzs hsz v n xs (hW.own (hown.alloc _)) ⟨w.heap.size, 0, none⟩ 1 c cs.toList (by simp [hl])
  (fun j u hu => by
   rw [Addr.add_lit, Nat.zero_add, hW.cell, World.cell?_alloc_mark]
   simpa using hu) h1 (by unfold maxLen; omega) hroom (by omega)
 rw [hWs] at hat
 exact ⟨v', w', hr, ho, dJ (World.grownBy_alloc _ _ _) (dJ (hW.grown _) hg), hat⟩
theorem OM {P : Program} {w W : World} {o : Oper} {a : Act} {K : Act → World → Prop} {Q : Exit → Act → World → Prop} (s x : Operand) (t : TypeId)
 (ho : o.op = .call { callee := .builtin .append, args := #[s, x], argTypes := #[t, t] })
 (e : TypeId) (z : Value) (size bytes : Nat) (hinfo : (P.info? e).map (fun i => (i.zero, i.size, i.bytes)) = some (some z, size, bytes)) (ht : P.underlying t = some (.slice e)) (hzs : z.cells.size = size) (hsz : 0 < size) (hby : 0 < bytes)
 (base : Nat) (v : Value) (n : Nat) (xs : List Value) (hs : a.eval s = v) (hown : w.ownsRow base e size v n xs)
 (cs : Array Value) (c : Nat) (t' : TypeId) (hx : a.eval x = .slice (some ⟨w.heap.size, 0, none⟩) 1 c) (hW : Same (w.alloc (.cells cs t')) W) (hl : cs.size = size) (h1 : ∀ u ∈ cs.toList, u.oneCell' = true)
 (hroom : (n + 1) * bytes ≤ 140737488355328) (hbase : base ≤ w.heap.size)
 (h : ∀ v' w', w'.ownsRow base e size v' (n + 1) (xs ++ cs.toList) → w.grownBy w' v.ownBlock → (v'.ownBlock = v.ownBlock ∨ v'.ownBlock = some (w.heap.size + 1)) → K (a.put o.dst v') w') : o.wp P a W K Q := by
 obtain ⟨v', w', hr, h2, h3, h4⟩ := Rn (P := P) w W t o.type e z size bytes hinfo ht hzs hsz hby base v n xs hown cs c t' hW hl h1 hroom hbase
 unfold Oper.wp execOp
 simp only [ho, resolve, invoke, builtin, Sem.run_bind, Sem.run_pure, Result.andThen_ok, List.map_toArray, List.map_cons, List.map_nil, hs, hx, hr]
 exact h v' w' h2 h3 h4
theorem dO {P : Program} {w : World} {ops : Array Oper} {rest : List Oper} {o : Oper} {a : Act} {Q : Exit → Act → World → Prop} (hgd : o.guard = none) (s x : Operand) (t : TypeId)
 (ho : o.op = .call { callee := .builtin .append, args := #[s, x], argTypes := #[t, t] })
 (e : TypeId) (z : Value) (size bytes : Nat) (hinfo : (P.info? e).map (fun i => (i.zero, i.size, i.bytes)) = some (some z, size, bytes)) (ht : P.underlying t = some (.slice e)) (hzs : z.cells.size = size) (hsz : 0 < size) (hby : 0 < bytes)
 (base : Nat) (v : Value) (n : Nat) (xs : List Value) (hs : a.eval s = v) (hown : w.ownsRow base e size v n xs)
 (cs : Array Value) (c : Nat) (t' : TypeId) (hx : a.eval x = .slice (some ⟨w.heap.size, 0, none⟩) 1 c) (hl : cs.size = size) (h1 : ∀ u ∈ cs.toList, u.oneCell' = true)
 (hroom : (n + 1) * bytes ≤ 140737488355328) (hbase : base ≤ w.heap.size)
 (h : ∀ v' w', w'.ownsRow base e size v' (n + 1) (xs ++ cs.toList) → w.grownBy w' v.ownBlock → (v'.ownBlock = v.ownBlock ∨ v'.ownBlock = some (w.heap.size + 1)) → wpList P ops Q rest (a.put o.dst v') w') : wpList P ops Q (o :: rest) a (w.alloc (.cells cs t')) :=
 wpList_plain hgd fun _ hK => OM s x t ho e z size bytes hinfo ht hzs hsz hby base v n xs hs hown cs c t' hx (Same.refl _) hl h1 hroom hbase fun v' w' h2 h3 h4 => hK _ _ (h v' w' h2 h3 h4)
theorem rV {P : Program} {w W : World} {ops : Array Oper} {o : Oper} {a : Act} {K : Act → World → Prop} {Q : Exit → Act → World → Prop} {E : Prop} (hgd : o.guard = none) (s x : Operand) (t : TypeId)
 (ho : o.op = .call { callee := .builtin .append, args := #[s, x], argTypes := #[t, t] })
 (e : TypeId) (z : Value) (size bytes : Nat) (hinfo : (P.info? e).map (fun i => (i.zero, i.size, i.bytes)) = some (some z, size, bytes)) (ht : P.underlying t = some (.slice e)) (hzs : z.cells.size = size) (hsz : 0 < size) (hby : 0 < bytes)
 (base : Nat) (v : Value) (n : Nat) (xs : List Value) (hs : a.eval s = v) (hown : w.ownsRow base e size v n xs)
 (cs : Array Value) (c : Nat) (t' : TypeId) (hx : a.eval x = .slice (some ⟨w.heap.size, 0, none⟩) 1 c) (hW : Same (w.alloc (.cells cs t')) W) (hl : cs.size = size) (h1 : ∀ u ∈ cs.toList, u.oneCell' = true)
 (hroom : (n + 1) * bytes ≤ 140737488355328) (hbase : base ≤ w.heap.size)
 (h : ∀ v' w', w'.ownsRow base e size v' (n + 1) (xs ++ cs.toList) → w.grownBy w' v.ownBlock → (v'.ownBlock = v.ownBlock ∨ v'.ownBlock = some (w.heap.size + 1)) → K (a.put o.dst v') w') :
 if Region.wanted o (yielded ops a.tmps) = true then Oper.wp P o a W K Q else E := by
 have hw : Region.wanted o (yielded ops a.tmps) = true := by simp [Region.wanted, hgd]
 rw [if_pos hw]
 exact OM s x t ho e z size bytes hinfo ht hzs hsz hby base v n xs hs hown cs c t' hx hW hl h1 hroom hbase h
def Apart (v : Value) (lo hi : Nat) : Prop := ∀ b, v.ownBlock = some b → b < lo ∨ hi ≤ b
theorem Apart.push {v v' : Value} {lo hi : Nat} {w : World} (h : Apart v lo hi) (hat : v'.ownBlock = v.ownBlock ∨ v'.ownBlock = some (w.heap.size + 1)) (hhi : hi ≤ w.heap.size) : Apart v' lo hi := by
 intro b hb
 rcases hat with e | e
 ·exact h b (by rw [← e]; exact hb)
 rw [e] at hb; injection hb with hb; right; omega
theorem Apart.dU {w : World} {base : Nat} {e : TypeId} {size n : Nat} {v : Value} {xs : List Value} (h : w.ownsRow base e size v n xs) (hi : Nat) : Apart v w.heap.size hi := fun b hb => .inl (h.lt b hb).2
theorem Rds.apart {w w' : World} {lo hi size n : Nat} {v u : Value} {xs : List Value} (h : Rds w lo hi size v n xs) (ha : Apart u lo hi) (hg : w.grownBy w' u.ownBlock) (hhi : hi ≤ w.heap.size) : Rds w' lo hi size v n xs :=
 h.grown hg hhi fun g hgg => ha g hgg
theorem gN {B : Nat} {w wo w1 : World} {e : TypeId} {size n : Nat} {v : Value} {xs : List Value} (hb : Below B w wo) (hB : B ≤ wo.heap.size) (hown : wo.ownsRow B e size v n xs) (hg : wo.grownBy w1 v.ownBlock) : Below B w w1 :=
 hb.grown hg hB fun k hk => (hown.lt k hk).1
def Blk (w : World) (g : Nat) (t : TypeId) (cs : Array Value) : Prop := w.heap[g]? = some (.cells cs t (0, 0))
section
variable {w w' : World} {g : Nat} {t : TypeId} {cs : Array Value}
theorem Blk.lt (h : Blk w g t cs) : g < w.heap.size := by
 rcases Nat.lt_or_ge g w.heap.size with hlt | hge
 ·exact hlt
 unfold Blk at h; rw [Array.getElem?_eq_none hge] at h; cases h
theorem Blk.cell (h : Blk w g t cs) (i : Nat) : w.cell? ⟨g, i, none⟩ = cs[i]? := cell_of_row w g i cs t (0, 0) h
theorem Blk.frozen (h : Blk w g t cs) (i : Nat) : w.frozen? ⟨g, i, none⟩ = false := by
 unfold Blk at h
 simp [World.frozen?, h]
theorem Blk.new (w : World) (t : TypeId) (cs : Array Value) : Blk (w.alloc (.cells cs t)) w.heap.size t cs := heap_alloc_new w _
theorem Blk.newAt (w : World) (t : TypeId) (cs : Array Value) (g : Nat) (hg : g = w.heap.size) : Blk (w.alloc (.cells cs t)) g t cs := hg ▸ Blk.new w t cs
theorem Blk.drew (h : Blk w g t cs) : Blk w.drew g t cs := h
theorem Blk.drewN (h : Blk w g t cs) (n : Nat) : Blk (w.drewN n) g t cs := h
theorem Blk.alloc (h : Blk w g t cs) (o : Obj) : Blk (w.alloc o) g t cs := (Below.heap_alloc w o g h.lt).trans h
theorem Blk.aF (h : Blk w g t cs) (i : Nat) (u : Value) : Blk (w.setCell ⟨g, i, none⟩ u) g t (cs.setIfInBounds i u) := by
 unfold Blk at h ⊢
 simp [World.setCell, Array.getElem?_modify, h]
theorem Blk.far (h : Blk w g t cs) {p : Addr} (hp : g ≠ p.block) (u : Value) : Blk (w.setCell p u) g t cs := (Below.heap_setCell w p u g hp).trans h
theorem Blk.below {B : Nat} (h : Blk w g t cs) (hb : Below B w w') (hg : g < B) : Blk w' g t cs := (hb.block g hg).trans h
theorem Blk.later (h : Blk w g t cs) (hb : Below w.heap.size w w') : Blk w' g t cs := h.below hb h.lt
theorem Blk.same (h : Blk w g t cs) (hs : Same w w') : Blk w' g t cs := by unfold Blk at h ⊢; rw [hs.heap]; exact h
theorem Blk.grown {row : Option Nat} (h : Blk w g t cs) (hb : w.grownBy w' row) (hg : some g ≠ row) : Blk w' g t cs := (hb.block g h.lt hg).trans h
end
theorem P4 {P : Program} (w W : World) (t ty e : TypeId) (z : Value) (size bytes : Nat) (hinfo : (P.info? e).map (fun i => (i.zero, i.size, i.bytes)) = some (some z, size, bytes)) (ht : P.underlying t = some (.slice e)) (hzs : z.cells.size = size) (hsz : 0 < size) (hby : 0 < bytes)
 (base : Nat) (v : Value) (n : Nat) (xs : List Value) (hown : w.ownsRow base e size v n xs)
 (cs : Array Value) (m c : Nat) (t' : TypeId) (hW : Same (w.alloc (.cells cs t')) W) (hl : cs.size = m * size) (h1 : ∀ u ∈ cs.toList, u.oneCell' = true)
 (hroom : (n + m) * bytes ≤ 140737488355328) (hbase : base ≤ w.heap.size) :
 ∃ v' w', (Builtin.append_ #[t, t] ty #[v, .slice (some ⟨w.heap.size, 0, none⟩) m c]).run P W = .ok v' w' ∧ w'.ownsRow base e size v' (n + m) (xs ++ cs.toList) ∧ w.grownBy w' v.ownBlock ∧
  (v'.ownBlock = v.ownBlock ∨ v'.ownBlock = some (w.heap.size + 1)) := by
 obtain ⟨i0, hi0, hz0, hz1, hz2⟩ := info_parts hinfo
 have hn : n + m ≤ (n + m) * bytes := Nat.le_mul_of_pos_right _ hby
 have hWs : W.heap.size = w.heap.size + 1 := by rw [hW.size]; simp
 obtain ⟨v', w', hr, ho, hg, -, hat⟩ := run_append_own_at (P := P) W base t ty e i0 z size bytes ht hi0 hz0 hz1 hz2 hzs hsz v n xs (hW.own (hown.alloc _)) ⟨w.heap.size, 0, none⟩ m c cs.toList (by simp [hl])
  (fun j u hu => by
   rw [Addr.add_lit, Nat.zero_add, hW.cell, World.cell?_alloc_mark]
   simpa using hu) h1 (by unfold maxLen; omega) hroom (by omega)
 rw [hWs] at hat
 exact ⟨v', w', hr, ho, dJ (World.grownBy_alloc _ _ _) (dJ (hW.grown _) hg), hat⟩
theorem Kk {P : Program} {w W : World} {o : Oper} {a : Act} {K : Act → World → Prop} {Q : Exit → Act → World → Prop} (s x : Operand) (t : TypeId)
 (ho : o.op = .call { callee := .builtin .append, args := #[s, x], argTypes := #[t, t] })
 (e : TypeId) (z : Value) (size bytes : Nat) (hinfo : (P.info? e).map (fun i => (i.zero, i.size, i.bytes)) = some (some z, size, bytes)) (ht : P.underlying t = some (.slice e)) (hzs : z.cells.size = size) (hsz : 0 < size) (hby : 0 < bytes)
 (base : Nat) (v : Value) (n : Nat) (xs : List Value) (hs : a.eval s = v) (hown : w.ownsRow base e size v n xs)
 (cs : Array Value) (m c : Nat) (t' : TypeId) (hx : a.eval x = .slice (some ⟨w.heap.size, 0, none⟩) m c) (hW : Same (w.alloc (.cells cs t')) W) (hl : cs.size = m * size) (h1 : ∀ u ∈ cs.toList, u.oneCell' = true)
 (hroom : (n + m) * bytes ≤ 140737488355328) (hbase : base ≤ w.heap.size)
 (h : ∀ v' w', w'.ownsRow base e size v' (n + m) (xs ++ cs.toList) → w.grownBy w' v.ownBlock → (v'.ownBlock = v.ownBlock ∨ v'.ownBlock = some (w.heap.size + 1)) → K (a.put o.dst v') w') : o.wp P a W K Q := by
 obtain ⟨v', w', hr, h2, h3, h4⟩ := P4 (P := P) w W t o.type e z size bytes hinfo ht hzs hsz hby base v n xs hown cs m c t' hW hl h1 hroom hbase
 unfold Oper.wp execOp
 simp only [ho, resolve, invoke, builtin, Sem.run_bind, Sem.run_pure, Result.andThen_ok, List.map_toArray, List.map_cons, List.map_nil, hs, hx, hr]
 exact h v' w' h2 h3 h4
theorem kT {P : Program} {w : World} {ops : Array Oper} {rest : List Oper} {o : Oper} {a : Act} {Q : Exit → Act → World → Prop} (hgd : o.guard = none) (s x : Operand) (t : TypeId)
 (ho : o.op = .call { callee := .builtin .append, args := #[s, x], argTypes := #[t, t] })
 (e : TypeId) (z : Value) (size bytes : Nat) (hinfo : (P.info? e).map (fun i => (i.zero, i.size, i.bytes)) = some (some z, size, bytes)) (ht : P.underlying t = some (.slice e)) (hzs : z.cells.size = size) (hsz : 0 < size) (hby : 0 < bytes)
 (base : Nat) (v : Value) (n : Nat) (xs : List Value) (hs : a.eval s = v) (hown : w.ownsRow base e size v n xs)
 (cs : Array Value) (m c : Nat) (t' : TypeId) (hx : a.eval x = .slice (some ⟨w.heap.size, 0, none⟩) m c) (hl : cs.size = m * size) (h1 : ∀ u ∈ cs.toList, u.oneCell' = true)
 (hroom : (n + m) * bytes ≤ 140737488355328) (hbase : base ≤ w.heap.size)
 (h : ∀ v' w', w'.ownsRow base e size v' (n + m) (xs ++ cs.toList) → w.grownBy w' v.ownBlock → (v'.ownBlock = v.ownBlock ∨ v'.ownBlock = some (w.heap.size + 1)) → wpList P ops Q rest (a.put o.dst v') w') : wpList P ops Q (o :: rest) a (w.alloc (.cells cs t')) :=
 wpList_plain hgd fun _ hK => Kk s x t ho e z size bytes hinfo ht hzs hsz hby base v n xs hs hown cs m c t' hx (Same.refl _) hl h1 hroom hbase fun v' w' h2 h3 h4 => hK _ _ (h v' w' h2 h3 h4)
theorem MB {P : Program} {w W : World} {ops : Array Oper} {o : Oper} {a : Act} {K : Act → World → Prop} {Q : Exit → Act → World → Prop} {E : Prop} (hgd : o.guard = none) (s x : Operand) (t : TypeId)
 (ho : o.op = .call { callee := .builtin .append, args := #[s, x], argTypes := #[t, t] })
 (e : TypeId) (z : Value) (size bytes : Nat) (hinfo : (P.info? e).map (fun i => (i.zero, i.size, i.bytes)) = some (some z, size, bytes)) (ht : P.underlying t = some (.slice e)) (hzs : z.cells.size = size) (hsz : 0 < size) (hby : 0 < bytes)
 (base : Nat) (v : Value) (n : Nat) (xs : List Value) (hs : a.eval s = v) (hown : w.ownsRow base e size v n xs)
 (cs : Array Value) (m c : Nat) (t' : TypeId) (hx : a.eval x = .slice (some ⟨w.heap.size, 0, none⟩) m c) (hW : Same (w.alloc (.cells cs t')) W) (hl : cs.size = m * size) (h1 : ∀ u ∈ cs.toList, u.oneCell' = true)
 (hroom : (n + m) * bytes ≤ 140737488355328) (hbase : base ≤ w.heap.size)
 (h : ∀ v' w', w'.ownsRow base e size v' (n + m) (xs ++ cs.toList) → w.grownBy w' v.ownBlock → (v'.ownBlock = v.ownBlock ∨ v'.ownBlock = some (w.heap.size + 1)) → K (a.put o.dst v') w') :
 if Region.wanted o (yielded ops a.tmps) = true then Oper.wp P o a W K Q else E := by
 have hw : Region.wanted o (yielded ops a.tmps) = true := by simp [Region.wanted, hgd]
 rw [if_pos hw]
 exact Kk s x t ho e z size bytes hinfo ht hzs hsz hby base v n xs hs hown cs m c t' hx hW hl h1 hroom hbase h
theorem Bu {P : Program} {w : World} (src dst e : TypeId) (hs : P.underlying src = some (.slice e)) (he : P.underlying e = some (.int .u8)) (hd : P.underlying dst = some .string)
 {base : Nat} {v : Value} {n : Nat} {xs : List Int} (hown : w.ownsRow base e 1 v n (xs.map (.int .u8))) (hn : 0 < n) :
 (convert src dst v).run P w = .ok (.string (strOfNums xs)) w := by
 obtain ⟨g, cap, rfl, -⟩ := hown.form hn
 have hl : xs.length = n := by have := hown.1; simpa using this
 have := run_convert_bytes_arg (P := P) w src e hs he g 0 n cap xs hl (fun i hi => by
  have := hown.cellAt i (by omega)
  rw [Nat.zero_add, this, List.getElem?_map, List.getElem?_eq_getElem (by omega), List.getD, List.getElem?_eq_getElem (by omega)]
  rfl) dst hd
 exact this
theorem gB {α : Type} {l : List α} {k : Nat} {z : α} (h : l[k]? = some z) : l.take (k + 1) = l.take k ++ [z] := by
 obtain ⟨hk, rfl⟩ := List.getElem?_eq_some_iff.1 h
 exact List.take_succ_eq_append_getElem hk
def cZ (s : ByteArray) (i : Nat) : Nat := (s.data.toList.getD i 0).toNat
theorem jh (s : ByteArray) (i : Nat) (h : i < s.size) : cZ s i = s[i].toNat := by
 unfold cZ
 rw [List.getD, List.getElem?_eq_getElem (by simpa using h)]
 rfl
instance : Coe Int Value := ⟨.int i64⟩
instance : Coe Nat Value := ⟨fun n => .int i64 n⟩
instance : Coe ByteArray Value := ⟨.string⟩
structure Kl (x0 : Option Addr) (x1 : Nat) (x2 : Nat) (x3 : Option Addr) (x4 : Nat) (x5 : Nat) (x6 : Option Addr) (x7 : Nat) (x8 : Nat) : Type
def aQ (x0 : Option Addr) (x1 : Nat) (x2 : Nat) (x3 : Option Addr) (x4 : Nat) (x5 : Nat) (x6 : Option Addr) (x7 : Nat) (x8 : Nat) : Kl x0 x1 x2 x3 x4 x5 x6 x7 x8 := ⟨⟩
instance {x0 x1 x2 x3 x4 x5 x6 x7 x8} : CoeDep (Kl x0 x1 x2 x3 x4 x5 x6 x7 x8) (aQ x0 x1 x2 x3 x4 x5 x6 x7 x8) (Array Value) := ⟨#[.slice x0 x1 x2, .slice x3 x4 x5, .slice x6 x7 x8]⟩
structure Km (x0 : Option Addr) (x1 : Nat) (x2 : Nat) (x3 : Option Addr) (x4 : Nat) (x5 : Nat) (x6 : Option Addr) (x7 : Nat) (x8 : Nat) (x9 : Option Addr) (x10 : Nat) (x11 : Nat) : Type
def jf (x0 : Option Addr) (x1 : Nat) (x2 : Nat) (x3 : Option Addr) (x4 : Nat) (x5 : Nat) (x6 : Option Addr) (x7 : Nat) (x8 : Nat) (x9 : Option Addr) (x10 : Nat) (x11 : Nat) : Km x0 x1 x2 x3 x4 x5 x6 x7 x8 x9 x10 x11 := ⟨⟩
instance {x0 x1 x2 x3 x4 x5 x6 x7 x8 x9 x10 x11} : CoeDep (Km x0 x1 x2 x3 x4 x5 x6 x7 x8 x9 x10 x11) (jf x0 x1 x2 x3 x4 x5 x6 x7 x8 x9 x10 x11) (Array Value) := ⟨#[.slice x0 x1 x2, .slice x3 x4 x5, .slice x6 x7 x8, .slice x9 x10 x11]⟩
structure Kn (x0 : Option Addr) (x1 : Nat) (x2 : Nat) (x3 : Option Addr) (x4 : Nat) (x5 : Nat) (x6 : Option Addr) (x7 : Nat) (x8 : Nat) (x9 : Option Addr) (x10 : Nat) (x11 : Nat) (x12 : Int) : Type
def gT (x0 : Option Addr) (x1 : Nat) (x2 : Nat) (x3 : Option Addr) (x4 : Nat) (x5 : Nat) (x6 : Option Addr) (x7 : Nat) (x8 : Nat) (x9 : Option Addr) (x10 : Nat) (x11 : Nat) (x12 : Int) : Kn x0 x1 x2 x3 x4 x5 x6 x7 x8 x9 x10 x11 x12 := ⟨⟩
instance {x0 x1 x2 x3 x4 x5 x6 x7 x8 x9 x10 x11 x12} : CoeDep (Kn x0 x1 x2 x3 x4 x5 x6 x7 x8 x9 x10 x11 x12) (gT x0 x1 x2 x3 x4 x5 x6 x7 x8 x9 x10 x11 x12) (Array Value) := ⟨#[.slice x0 x1 x2, .slice x3 x4 x5, .slice x6 x7 x8, .slice x9 x10 x11, .int i64 x12]⟩
structure Ko (x0 : Option Addr) (x1 : Nat) (x2 : Nat) (x3 : Option Addr) (x4 : Nat) (x5 : Nat) (x6 : Option Addr) (x7 : Nat) (x8 : Nat) (x9 : Int) : Type
def aP (x0 : Option Addr) (x1 : Nat) (x2 : Nat) (x3 : Option Addr) (x4 : Nat) (x5 : Nat) (x6 : Option Addr) (x7 : Nat) (x8 : Nat) (x9 : Int) : Ko x0 x1 x2 x3 x4 x5 x6 x7 x8 x9 := ⟨⟩
instance {x0 x1 x2 x3 x4 x5 x6 x7 x8 x9} : CoeDep (Ko x0 x1 x2 x3 x4 x5 x6 x7 x8 x9) (aP x0 x1 x2 x3 x4 x5 x6 x7 x8 x9) (Array Value) := ⟨#[.slice x0 x1 x2, .slice x3 x4 x5, .slice x6 x7 x8, .int i64 x9]⟩
structure Ks (x0 : Option Addr) (x1 : Nat) (x2 : Nat) (x3 : Int) (x4 : Int) : Type
def jT (x0 : Option Addr) (x1 : Nat) (x2 : Nat) (x3 : Int) (x4 : Int) : Ks x0 x1 x2 x3 x4 := ⟨⟩
instance {x0 x1 x2 x3 x4} : CoeDep (Ks x0 x1 x2 x3 x4) (jT x0 x1 x2 x3 x4) (Array Value) := ⟨#[.slice x0 x1 x2, .int i64 x3, .int i64 x4]⟩
structure Kt (x0 : Int) : Type
def dI (x0 : Int) : Kt x0 := ⟨⟩
instance {x0} : CoeDep (Kt x0) (dI x0) (Array Value) := ⟨#[.int i64 x0]⟩
structure Ku (x0 : Int) (x1 : Int) : Type
def aL (x0 : Int) (x1 : Int) : Ku x0 x1 := ⟨⟩
instance {x0 x1} : CoeDep (Ku x0 x1) (aL x0 x1) (Array Value) := ⟨#[.int i64 x0, .int i64 x1]⟩
structure Kv (x0 : Int) (x1 : Int) (x2 : Int) : Type
def oP (x0 : Int) (x1 : Int) (x2 : Int) : Kv x0 x1 x2 := ⟨⟩
instance {x0 x1 x2} : CoeDep (Kv x0 x1 x2) (oP x0 x1 x2) (Array Value) := ⟨#[.int i64 x0, .int i64 x1, .int i64 x2]⟩
structure Kw (x0 : Int) (x1 : Int) (x2 : Int) (x3 : Int) : Type
def lX (x0 : Int) (x1 : Int) (x2 : Int) (x3 : Int) : Kw x0 x1 x2 x3 := ⟨⟩
instance {x0 x1 x2 x3} : CoeDep (Kw x0 x1 x2 x3) (lX x0 x1 x2 x3) (Array Value) := ⟨#[.int i64 x0, .int i64 x1, .int i64 x2, .int i64 x3]⟩
structure Ky (x0 : Int) (x1 : Int) (x2 : Int) (x3 : Int) (x4 : ByteArray) (x5 : Option Addr) (x6 : Nat) (x7 : Nat) : Type
def aB (x0 : Int) (x1 : Int) (x2 : Int) (x3 : Int) (x4 : ByteArray) (x5 : Option Addr) (x6 : Nat) (x7 : Nat) : Ky x0 x1 x2 x3 x4 x5 x6 x7 := ⟨⟩
instance {x0 x1 x2 x3 x4 x5 x6 x7} : CoeDep (Ky x0 x1 x2 x3 x4 x5 x6 x7) (aB x0 x1 x2 x3 x4 x5 x6 x7) (Array Value) := ⟨#[.int i64 x0, .int i64 x1, .int i64 x2, .int i64 x3, .string x4, .slice x5 x6 x7]⟩
structure Fj (x0 : Int) (x1 : Int) (x2 : Int) (x3 : Int) (x4 : ByteArray) (x5 : Option Addr) (x6 : Nat) (x7 : Nat) (x8 : Int) (x9 : Int) (x10 : Int) (x11 : Int) (x12 : ByteArray) (x13 : Option Addr) (x14 : Nat) (x15 : Nat) : Type
def fZ (x0 : Int) (x1 : Int) (x2 : Int) (x3 : Int) (x4 : ByteArray) (x5 : Option Addr) (x6 : Nat) (x7 : Nat) (x8 : Int) (x9 : Int) (x10 : Int) (x11 : Int) (x12 : ByteArray) (x13 : Option Addr) (x14 : Nat) (x15 : Nat) : Fj x0 x1 x2 x3 x4 x5 x6 x7 x8 x9 x10 x11 x12 x13 x14 x15 := ⟨⟩
instance {x0 x1 x2 x3 x4 x5 x6 x7 x8 x9 x10 x11 x12 x13 x14 x15} : CoeDep (Fj x0 x1 x2 x3 x4 x5 x6 x7 x8 x9 x10 x11 x12 x13 x14 x15) (fZ x0 x1 x2 x3 x4 x5 x6 x7 x8 x9 x10 x11 x12 x13 x14 x15) (Array Value) := ⟨#[.int i64 x0, .int i64 x1, .int i64 x2, .int i64 x3, .string x4, .slice x5 x6 x7, .int i64 x8, .int i64 x9, .int i64 x10, .int i64 x11, .string x12, .slice x13 x14 x15]⟩
structure Fp (x0 : Int) (x1 : Int) (x2 : Int) (x3 : Int) (x4 : ByteArray) (x5 : Option Addr) (x6 : Nat) (x7 : Nat) (x8 : Int) (x9 : Int) (x10 : Int) (x11 : Int) (x12 : ByteArray) (x13 : Option Addr) (x14 : Nat) (x15 : Nat) (x16 : Int) (x17 : Int) (x18 : Int) (x19 : Int) (x20 : ByteArray) (x21 : Option Addr) (x22 : Nat) (x23 : Nat) : Type
def gH (x0 : Int) (x1 : Int) (x2 : Int) (x3 : Int) (x4 : ByteArray) (x5 : Option Addr) (x6 : Nat) (x7 : Nat) (x8 : Int) (x9 : Int) (x10 : Int) (x11 : Int) (x12 : ByteArray) (x13 : Option Addr) (x14 : Nat) (x15 : Nat) (x16 : Int) (x17 : Int) (x18 : Int) (x19 : Int) (x20 : ByteArray) (x21 : Option Addr) (x22 : Nat) (x23 : Nat) : Fp x0 x1 x2 x3 x4 x5 x6 x7 x8 x9 x10 x11 x12 x13 x14 x15 x16 x17 x18 x19 x20 x21 x22 x23 := ⟨⟩
instance {x0 x1 x2 x3 x4 x5 x6 x7 x8 x9 x10 x11 x12 x13 x14 x15 x16 x17 x18 x19 x20 x21 x22 x23} : CoeDep (Fp x0 x1 x2 x3 x4 x5 x6 x7 x8 x9 x10 x11 x12 x13 x14 x15 x16 x17 x18 x19 x20 x21 x22 x23) (gH x0 x1 x2 x3 x4 x5 x6 x7 x8 x9 x10 x11 x12 x13 x14 x15 x16 x17 x18 x19 x20 x21 x22 x23) (Array Value) := ⟨#[.int i64 x0, .int i64 x1, .int i64 x2, .int i64 x3, .string x4, .slice x5 x6 x7, .int i64 x8, .int i64 x9, .int i64 x10, .int i64 x11, .string x12, .slice x13 x14 x15, .int i64 x16, .int i64 x17, .int i64 x18, .int i64 x19, .string x20, .slice x21 x22 x23]⟩
structure Fq (x0 : Int) (x1 : Int) (x2 : Int) (x3 : ByteArray) (x4 : Int) (x5 : Int) : Type
def aD (x0 : Int) (x1 : Int) (x2 : Int) (x3 : ByteArray) (x4 : Int) (x5 : Int) : Fq x0 x1 x2 x3 x4 x5 := ⟨⟩
instance {x0 x1 x2 x3 x4 x5} : CoeDep (Fq x0 x1 x2 x3 x4 x5) (aD x0 x1 x2 x3 x4 x5) (Array Value) := ⟨#[.int i64 x0, .int i64 x1, .int i64 x2, .string x3, .int i64 x4, .int i64 x5]⟩
structure Fu (x0 : Int) (x1 : ByteArray) (x2 : Int) : Type
def aV (x0 : Int) (x1 : ByteArray) (x2 : Int) : Fu x0 x1 x2 := ⟨⟩
instance {x0 x1 x2} : CoeDep (Fu x0 x1 x2) (aV x0 x1 x2) (Array Value) := ⟨#[.int i64 x0, .string x1, .int i64 x2]⟩
structure Fv (x0 : Int) (x1 : ByteArray) (x2 : Int) (x3 : Int) (x4 : Option Addr) (x5 : Nat) (x6 : Nat) : Type
def ay (x0 : Int) (x1 : ByteArray) (x2 : Int) (x3 : Int) (x4 : Option Addr) (x5 : Nat) (x6 : Nat) : Fv x0 x1 x2 x3 x4 x5 x6 := ⟨⟩
instance {x0 x1 x2 x3 x4 x5 x6} : CoeDep (Fv x0 x1 x2 x3 x4 x5 x6) (ay x0 x1 x2 x3 x4 x5 x6) (Array Value) := ⟨#[.int i64 x0, .string x1, .int i64 x2, .int i64 x3, .slice x4 x5 x6]⟩
structure Fw (x0 : Int) (x1 : ByteArray) (x2 : Int) (x3 : Int) (x4 : Option Addr) (x5 : Nat) (x6 : Nat) (x7 : Int) (x8 : ByteArray) (x9 : Int) (x10 : Int) (x11 : Option Addr) (x12 : Nat) (x13 : Nat) : Type
def dX (x0 : Int) (x1 : ByteArray) (x2 : Int) (x3 : Int) (x4 : Option Addr) (x5 : Nat) (x6 : Nat) (x7 : Int) (x8 : ByteArray) (x9 : Int) (x10 : Int) (x11 : Option Addr) (x12 : Nat) (x13 : Nat) : Fw x0 x1 x2 x3 x4 x5 x6 x7 x8 x9 x10 x11 x12 x13 := ⟨⟩
instance {x0 x1 x2 x3 x4 x5 x6 x7 x8 x9 x10 x11 x12 x13} : CoeDep (Fw x0 x1 x2 x3 x4 x5 x6 x7 x8 x9 x10 x11 x12 x13) (dX x0 x1 x2 x3 x4 x5 x6 x7 x8 x9 x10 x11 x12 x13) (Array Value) := ⟨#[.int i64 x0, .string x1, .int i64 x2, .int i64 x3, .slice x4 x5 x6, .int i64 x7, .string x8, .int i64 x9, .int i64 x10, .slice x11 x12 x13]⟩
structure Fx (x0 : Option Addr) (x1 : Int) : Type
def jW (x0 : Option Addr) (x1 : Int) : Fx x0 x1 := ⟨⟩
instance {x0 x1} : CoeDep (Fx x0 x1) (jW x0 x1) (Array Value) := ⟨#[.pointer x0, .int i64 x1]⟩
structure Fy (x0 : ByteArray) : Type
def Ro (x0 : ByteArray) : Fy x0 := ⟨⟩
instance {x0} : CoeDep (Fy x0) (Ro x0) (Array Value) := ⟨#[.string x0]⟩
structure Fz (x0 : ByteArray) (x1 : Option Addr) (x2 : Nat) (x3 : Nat) (x4 : Option Addr) (x5 : Nat) (x6 : Nat) (x7 : Int) (x8 : ByteArray) (x9 : Int) (x10 : Int) (x11 : Option Addr) (x12 : Nat) (x13 : Nat) (x14 : Int) : Type
def dG (x0 : ByteArray) (x1 : Option Addr) (x2 : Nat) (x3 : Nat) (x4 : Option Addr) (x5 : Nat) (x6 : Nat) (x7 : Int) (x8 : ByteArray) (x9 : Int) (x10 : Int) (x11 : Option Addr) (x12 : Nat) (x13 : Nat) (x14 : Int) : Fz x0 x1 x2 x3 x4 x5 x6 x7 x8 x9 x10 x11 x12 x13 x14 := ⟨⟩
instance {x0 x1 x2 x3 x4 x5 x6 x7 x8 x9 x10 x11 x12 x13 x14} : CoeDep (Fz x0 x1 x2 x3 x4 x5 x6 x7 x8 x9 x10 x11 x12 x13 x14) (dG x0 x1 x2 x3 x4 x5 x6 x7 x8 x9 x10 x11 x12 x13 x14) (Array Value) := ⟨#[.string x0, .slice x1 x2 x3, .slice x4 x5 x6, .int i64 x7, .string x8, .int i64 x9, .int i64 x10, .slice x11 x12 x13, .int i64 x14]⟩
structure FB (x0 : ByteArray) (x1 : Option Addr) (x2 : Nat) (x3 : Nat) (x4 : Int) : Type
def dS (x0 : ByteArray) (x1 : Option Addr) (x2 : Nat) (x3 : Nat) (x4 : Int) : FB x0 x1 x2 x3 x4 := ⟨⟩
instance {x0 x1 x2 x3 x4} : CoeDep (FB x0 x1 x2 x3 x4) (dS x0 x1 x2 x3 x4) (Array Value) := ⟨#[.string x0, .slice x1 x2 x3, .int i64 x4]⟩
structure FC (x0 : ByteArray) (x1 : Int) : Type
def lM (x0 : ByteArray) (x1 : Int) : FC x0 x1 := ⟨⟩
instance {x0 x1} : CoeDep (FC x0 x1) (lM x0 x1) (Array Value) := ⟨#[.string x0, .int i64 x1]⟩
structure FD (x0 : ByteArray) (x1 : Int) (x2 : Option Addr) (x3 : Nat) (x4 : Nat) (x5 : Int) (x6 : Int) (x7 : Int) (x8 : Int) (x9 : ByteArray) (x10 : Option Addr) (x11 : Nat) (x12 : Nat) : Type
def fU (x0 : ByteArray) (x1 : Int) (x2 : Option Addr) (x3 : Nat) (x4 : Nat) (x5 : Int) (x6 : Int) (x7 : Int) (x8 : Int) (x9 : ByteArray) (x10 : Option Addr) (x11 : Nat) (x12 : Nat) : FD x0 x1 x2 x3 x4 x5 x6 x7 x8 x9 x10 x11 x12 := ⟨⟩
instance {x0 x1 x2 x3 x4 x5 x6 x7 x8 x9 x10 x11 x12} : CoeDep (FD x0 x1 x2 x3 x4 x5 x6 x7 x8 x9 x10 x11 x12) (fU x0 x1 x2 x3 x4 x5 x6 x7 x8 x9 x10 x11 x12) (Array Value) := ⟨#[.string x0, .int i64 x1, .slice x2 x3 x4, .int i64 x5, .int i64 x6, .int i64 x7, .int i64 x8, .string x9, .slice x10 x11 x12]⟩
structure UT (b o : Nat) : Type
def aj (b o : Nat) : UT b o := ⟨⟩
instance {b o : Nat} : CoeDep (UT b o) (aj b o) Addr := ⟨⟨b, o, none⟩⟩
structure Xe : Type
def aC : Xe := ⟨⟩
instance : CoeDep Xe aC ByteArray := ⟨⟨#[]⟩⟩
end
end Go.Proofs.YthbcamfejgghhaaGreatDoor
