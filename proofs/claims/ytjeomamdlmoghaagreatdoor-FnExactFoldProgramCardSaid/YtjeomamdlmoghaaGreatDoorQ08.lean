/- MarkP: several texts in one. -/
import Derived.Test.YtjeomamdlmoghaaGreatDoorQ00
import Derived.Test.YtjeomamdlmoghaaGreatDoorQ04
import Derived.Test.YtjeomamdlmoghaaGreatDoorQ06
import Derived.Test.YtjeomamdlmoghaaGreatDoorProg
import Derived.Deep.RegionHeld3
set_option maxRecDepth 100000
set_option maxHeartbeats 8000000
set_option linter.unusedVariables false
set_option linter.unusedSimpArgs false
section
section
namespace Go.Proofs.YtjeomamdlmoghaaGreatDoor
open Go.RowKit
def OwnTexts (l : List ByteArray) (w : World) (e : Ending) (w' : World) : Prop :=
 ∃ v, e = .returned v ∧ w'.ownsRow w.heap.size 9 1 v l.length (l.map .string) ∧ Below w.heap.size w w'
def mdig : Nat → Nat → List UInt8 → List UInt8
 | 0, _, acc => acc
 | f + 1, k, acc => if k = 0 then acc else mdig f (k / 10) ((48 + UInt8.ofNat (k % 10)) :: acc)
def mtext (k : Nat) : ByteArray := ⟨(109 :: mdig k k []).toArray⟩
theorem ba_cons (x : UInt8) (acc : List UInt8) : (⟨#[x]⟩ : ByteArray) ++ ⟨acc.toArray⟩ = ⟨(x :: acc).toArray⟩ := by
 apply ByteArray.ext; simp
theorem mdig_pos {n f k : Nat} {acc : List UInt8} (hm : mdig n n [] = mdig f k acc) (hk : 0 < k) (hf : k ≤ f) : mdig n n [] = mdig (f - 1) (k / 10) ((48 + UInt8.ofNat (k % 10)) :: acc) := by
 obtain ⟨g, rfl⟩ : ∃ g, f = g + 1 := ⟨f - 1, by omega⟩
 rw [hm, mdig, if_neg (by omega)]; rfl
theorem mdig_zero {n f k : Nat} {acc : List UInt8} (hm : mdig n n [] = mdig f k acc) (hk : ¬ 0 < k) : mdig n n [] = acc := by
 obtain rfl : k = 0 := by omega
 rw [hm]; cases f <;> simp [mdig]
theorem markText_any (n : Nat) (w : World) (h0 : 0 < n) (h1 : n ≤ 1099511627776) :
 Calls Tryz.prog 57 #[.int .i64 n] w fun e w' => e = .returned (.string (mtext n)) ∧ Below w.heap.size w w' := by
 have hn0 : decide (n = 0) = false := by simp; omega
 have hcv := run_convert_byte1 (P := Tryz.prog) 119 9 5 Tryz.underlying119 Tryz.underlying5 Tryz.underlying9
 go_enter Tryz.func57, Tryz.ntmps57
 go_wp2
 go_loopw [0, 3] (fun i s wr => ∃ (f k : Nat) (acc : List UInt8), k ≤ f ∧ acc.length + f ≤ n ∧ i = .int .i64 k ∧ s = .string ⟨acc.toArray⟩ ∧ Hid (mdig n n [] = mdig f k acc) ∧ Below w.heap.size w wr) (fun i _ _ => (intOf i).toNat)
 case atStart => exact ⟨n, n, [], Nat.le_refl _, by simp, rfl, rfl, rfl, Below.refl _ _⟩
 case round =>
  obtain ⟨f, k, acc, hf, hk1, rfl, rfl, hm, hb⟩ := hrel
  by_cases hk : 0 < k
  ·have Hm := Lib.hid (mdig_pos hm.out hk hf)
   clear hm
   go_wp2
   go_roundw
   case rel => exact ⟨f - 1, k / 10, _, by omega, by simp; omega, by go_num, by rw [ba_cons], Hm.out, hb.alloc hb.size _⟩
   case measure => simp [intOf]; omega
  ·have Hm := Lib.hid (mdig_zero hm.out hk)
   clear hm
   go_wp2
   go_ret
   exact ⟨ret_string (by rw [mtext, Hm.out]; exact ba_cons _ _), hb⟩
def mstr (k : Int) : Value := .string (mtext k.toNat)
end Go.Proofs.YtjeomamdlmoghaaGreatDoor
end
section
namespace Go.Proofs.YtjeomamdlmoghaaGreatDoor
open Go.RowKit
def markL {α : Type} (mk : Nat → α → α) (cnt : α → Nat) : Nat → List α → List α
 | _, [] => []
 | k, c :: l => mk k c :: markL mk cnt (k + cnt c) l
section
variable {α : Type} {mk : Nat → α → α} {cnt : α → Nat}
theorem markL_len : ∀ (l : List α) (k : Nat), (markL mk cnt k l).length = l.length
 | [], _ => rfl
 | c :: l, k => by simp [markL, markL_len l]
theorem markL_app : ∀ (a b : List α) (k : Nat), markL mk cnt k (a ++ b) = markL mk cnt k a ++ markL mk cnt (k + sumOf cnt a) b
 | [], b, k => by simp [markL, sumOf]
 | c :: a, b, k => by simp [markL, sumOf, markL_app a b, Nat.add_assoc]
theorem markL_snoc {l : List α} {j k : Nat} {c : α} (h : l[j]? = some c) : markL mk cnt k (l.take (j + 1)) = markL mk cnt k (l.take j) ++ [mk (k + sumOf cnt (l.take j)) c] := by
 rw [take_snoc_of h, markL_app]; rfl
theorem markL_get {l : List α} {j k : Nat} {c : α} (h : l[j]? = some c) : (markL mk cnt k l)[j]? = some (mk (k + sumOf cnt (l.take j)) c) := by
 obtain ⟨hj, rfl⟩ := List.getElem?_eq_some_iff.1 h
 have e : l = l.take j ++ (l[j] :: l.drop (j + 1)) := by rw [← List.drop_eq_getElem_cons hj, List.take_append_drop]
 have e2 : markL mk cnt k l = markL mk cnt k (l.take j) ++ markL mk cnt (k + sumOf cnt (l.take j)) (l[j] :: l.drop (j + 1)) := by
  conv => lhs; rw [e]
  exact markL_app _ _ _
 rw [e2, List.getElem?_append_right (by rw [markL_len, List.length_take]; omega), markL_len, List.length_take, Nat.min_eq_left (by omega), Nat.sub_self]
 rfl
end
def halfM {α : Type} (mk : Nat → α → α) (cnt : α → Nat) (k : Nat) (l : List α) (j : Nat) : List α := markL mk cnt k (l.take j) ++ l.drop j
section
variable {α : Type} {mk : Nat → α → α} {cnt : α → Nat} {f : α → List Dat} {K k j : Nat} {l : List α} {c : α}
theorem halfM_zero : halfM mk cnt k l 0 = l := by simp [halfM, markL]
theorem halfM_all : halfM mk cnt k l l.length = markL mk cnt k l := by simp [halfM]
theorem halfM_at (h : l[j]? = some c) : flat f (halfM mk cnt k l j) = flat f (markL mk cnt k (l.take j)) ++ (f c ++ flat f (l.drop (j + 1))) := by
 obtain ⟨hj, rfl⟩ := List.getElem?_eq_some_iff.1 h
 rw [halfM, flat_app, List.drop_eq_getElem_cons hj, flat_cons]
theorem halfM_next (h : l[j]? = some c) : flat f (halfM mk cnt k l (j + 1)) = flat f (markL mk cnt k (l.take j)) ++ (f (mk (k + sumOf cnt (l.take j)) c) ++ flat f (l.drop (j + 1))) := by
 rw [halfM, markL_snoc h, flat_app, flat_app, flat_cons, flat_nil, List.append_nil, List.append_assoc]
theorem halfM_front (hf : ∀ x, (f x).length = K) (hj : j ≤ l.length) : (flat f (markL mk cnt k (l.take j))).length = j * K := by
 rw [flat_len hf, markL_len, List.length_take, Nat.min_eq_left hj]
end
structure Fr (F : List Nat) (w w' : World) : Prop where
 os : w'.os = w.os
 tape : w'.tape = w.tape
 output : w'.output = w.output
 size : w.heap.size ≤ w'.heap.size
 block : ∀ b, b < w.heap.size → b ∉ F → w'.heap[b]? = w.heap[b]?
section
variable {F G : List Nat} {w w' w2 : World} {B : Nat}
theorem Fr.refl (F : List Nat) (w : World) : Fr F w w := ⟨rfl, rfl, rfl, Nat.le_refl _, fun _ _ _ => rfl⟩
theorem Fr.trans (h : Fr F w w') (h' : Fr F w' w2) : Fr F w w2 := ⟨h'.os.trans h.os, h'.tape.trans h.tape, h'.output.trans h.output, Nat.le_trans h.size h'.size, fun b hb hn => (h'.block b (Nat.lt_of_lt_of_le hb h.size) hn).trans (h.block b hb hn)⟩
theorem Fr.mono (h : Fr F w w') (hs : ∀ b ∈ F, b ∈ G) : Fr G w w' := ⟨h.os, h.tape, h.output, h.size, fun b hb hn => h.block b hb fun hf => hn (hs b hf)⟩
theorem Fr.of_below (h : Below w.heap.size w w') : Fr F w w' := ⟨h.os, h.tape, h.output, h.size, fun b hb _ => h.block b hb⟩
theorem Fr.set_ (h : Fr F w w') {p : Addr} (hp : p.block ∈ F) (u : Value) : Fr F w (w'.setCell p u) :=
 ⟨h.os, h.tape, h.output, by simpa [World.setCell] using h.size, fun b hb hn => (Below.heap_setCell w' p u b (fun e => hn (by rw [e]; exact hp))).trans (h.block b hb hn)⟩
theorem Fr.below (h : Fr F w w') (hF : ∀ b ∈ F, B ≤ b) (hB : B ≤ w.heap.size) : Below B w w' :=
 ⟨h.os, h.tape, h.output, h.size, fun b hb => h.block b (by omega) fun hf => by have := hF b hf; omega⟩
theorem OwnVs.fr {ds : List Dat} {vs : List Value} (h : OwnVs w ds G vs) (hf : Fr F w w') (hd : ∀ b ∈ G, b ∉ F) : OwnVs w' ds G vs := h.kept fun b hb => hf.block b (h.lt b hb) (hd b hb)
theorem OwnV.fr {d : Dat} {v : Value} (h : OwnV w d G v) (hf : Fr F w w') (hd : ∀ b ∈ G, b ∉ F) : OwnV w' d G v := h.kept fun b hb => hf.block b (h.lt b hb) (hd b hb)
theorem own_fr {base : Nat} {e : TypeId} {size n g cap : Nat} {xs : List Value} (h : w.ownsRow base e size (.slice (some ⟨g, 0, none⟩) n cap) n xs) (hf : Fr F w w') (hd : g ∉ F) : w'.ownsRow base e size (.slice (some ⟨g, 0, none⟩) n cap) n xs :=
 own_block h fun b hb => by
  have hl := h.lt b hb
  have : g = b := by simpa [Value.ownBlock] using hb
  subst this
  exact hf.block g hl.2 hd
end
theorem own_list {w : World} {base : Nat} {e : TypeId} {size n : Nat} {v : Value} {xs ys : List Value} (h : w.ownsRow base e size v n xs) (hx : xs = ys) : w.ownsRow base e size v n ys := hx ▸ h
theorem set_mid {va ue vb : List Value} {p i : Nat} {u : Value} (h : va.length = p) (hi : i < ue.length) : (va ++ (ue ++ vb)).set (p + i) u = va ++ (ue.set i u ++ vb) := by
 rw [List.set_append_right _ _ (by omega), show p + i - va.length = i by omega, List.set_append_left _ _ hi]
theorem set_mid0 {va ue vb : List Value} {p : Nat} {u : Value} (h : va.length = p) (hi : 0 < ue.length) : (va ++ (ue ++ vb)).set p u = va ++ (ue.set 0 u ++ vb) := set_mid (i := 0) h hi
theorem set_mid2 {va ue vb : List Value} {p a b : Nat} {u : Value} (h : va.length = p) (hi : a + b < ue.length) : (va ++ (ue ++ vb)).set (p + a + b) u = va ++ (ue.set (a + b) u ++ vb) := by
 rw [Nat.add_assoc]; exact set_mid h hi
theorem own_mid {w : World} {base : Nat} {e : TypeId} {size n g cap p i : Nat} {va ue vb : List Value} {u : Value} (h : w.ownsRow base e size (.slice (some ⟨g, 0, none⟩) n cap) n (va ++ (ue ++ vb))) (hva : va.length = p) (hp : p + i < n * size) (hu : ue[i]? = some u) : w.cell? ⟨g, p + i, none⟩ = some u := by
 rw [h.cellAt _ hp, List.getElem?_append_right (by omega), show p + i - va.length = i by omega, List.getElem?_append_left (List.getElem?_eq_some_iff.1 hu).1, hu]
theorem OwnV.elem {w : World} {K n j : Nat} {A e B : List Dat} {F : List Nat} {v : Value} (h : OwnV w (.row K n (A ++ (e ++ B))) F v) (hj : j < n) (hA : A.length = j * K) (he : e.length = K) :
 ∃ g cap t F1 Fe F2 va ue vb, v = .slice (some ⟨g, 0, none⟩) n cap ∧ F = g :: (F1 ++ (Fe ++ F2)) ∧ w.ownsRow 0 t K (.slice (some ⟨g, 0, none⟩) n cap) n (va ++ (ue ++ vb)) ∧ va.length = j * K ∧ ue.length = K ∧ OwnVs w A F1 va ∧ OwnVs w e Fe ue ∧ OwnVs w B F2 vb := by
 obtain ⟨t, vs, F', h1, rfl, h3⟩ := h.row_
 obtain ⟨g, cap, rfl, -⟩ := h1.form (by omega)
 obtain ⟨F1, F'', va, v'', rfl, rfl, h4, h5⟩ := h3.parts
 obtain ⟨Fe, F2, ue, vb, rfl, rfl, h6, h7⟩ := h5.parts
 exact ⟨g, cap, t, F1, Fe, F2, va, ue, vb, rfl, rfl, h1, by rw [h4.len, hA], by rw [h6.len, he], h4, h6, h7⟩
theorem OwnV.put {w : World} {t : TypeId} {K n g cap : Nat} {A e B : List Dat} {F1 Fe F2 : List Nat} {va ue vb : List Value} (h : w.ownsRow 0 t K (.slice (some ⟨g, 0, none⟩) n cap) n (va ++ (ue ++ vb))) (h1 : OwnVs w A F1 va) (h2 : OwnVs w e Fe ue) (h3 : OwnVs w B F2 vb) :
 OwnV w (.row K n (A ++ (e ++ B))) (g :: (F1 ++ (Fe ++ F2))) (.slice (some ⟨g, 0, none⟩) n cap) := OwnV.mkRow h (h1.app (h2.app h3))
theorem nodup_elem {g : Nat} {F1 Fe F2 : List Nat} (h : (g :: (F1 ++ (Fe ++ F2))).Nodup) : Fe.Nodup ∧ g ∉ Fe ∧ (∀ b ∈ F1, b ∉ Fe) ∧ (∀ b ∈ F2, b ∉ Fe) ∧ (∀ b ∈ F1, b ≠ g) ∧ (∀ b ∈ F2, b ≠ g) ∧ (∀ b ∈ Fe, b ≠ g) := by
 rw [List.nodup_cons, List.nodup_append, List.nodup_append] at h
 obtain ⟨h1, h2, ⟨h3, h4, h5⟩, h6⟩ := h
 refine ⟨h3, fun hg => h1 (by simp [hg]), fun b hb he => h6 b hb b (by simp [he]) rfl, fun b hb he => h5 b he b hb rfl, ?_, ?_, ?_⟩ <;> rintro b hb rfl <;> exact h1 (by simp [hb])
theorem nodup_dis {F G : List Nat} (h : (F ++ G).Nodup) : (∀ b ∈ F, b ∉ G) ∧ (∀ b ∈ G, b ∉ F) ∧ F.Nodup ∧ G.Nodup := by
 rw [List.nodup_append] at h
 obtain ⟨h1, h2, h3⟩ := h
 exact ⟨fun b hb hg => h3 b hb b hg rfl, fun b hb hg => h3 b hg b hb rfl, h1, h2⟩
theorem Blk.fr {F : List Nat} {w w' : World} {g : Nat} {t : TypeId} {cs : Array Value} (h : Blk w g t cs) (hf : Fr F w w') (hg : g ∉ F) : Blk w' g t cs := (hf.block g h.lt hg).trans h
theorem mem_elem {g b : Nat} {F1 Fe F2 : List Nat} (h : b ∈ g :: Fe) : b ∈ g :: (F1 ++ (Fe ++ F2)) := by
 simp only [List.mem_cons, List.mem_append] at h ⊢
 rcases h with h | h
 ·exact .inl h
 ·exact .inr (.inr (.inl h))
theorem markText_at (x : Int) (n : Nat) (w : World) (hx : x = (n : Int)) (h0 : 0 < n) (h1 : n ≤ 1099511627776) :
 Calls Tryz.prog 57 #[.int .i64 x] w fun e w' => e = .returned (.string (mtext n)) ∧ Below w.heap.size w w' := by
 subst hx; exact markText_any n w h0 h1
end Go.Proofs.YtjeomamdlmoghaaGreatDoor
end
section
namespace Go.Proofs.YtjeomamdlmoghaaGreatDoor
open Go.RowKit
theorem strOwnOut {w : World} {c : ByteArray} {F : List Nat} {vs : List Value} (h : OwnVs w (strDats c) F vs) : F = [] ∧ vs = [Value.string c] := by
 unfold strDats at h
 obtain ⟨G0, H0, v0, t0, rfl, rfl, a0, h⟩ := h.out
 obtain ⟨rfl, rfl⟩ := h.outNil
 obtain ⟨rfl, rfl⟩ := a0.str_
 exact ⟨by simp, rfl⟩
theorem strOwnIn {w : World} {c : ByteArray}  : OwnVs w (strDats c) [] [.string c] := by
 exact (OwnVs.cons_ .mkStr (OwnVs.nil_ (w := w)))
def strCnt (c : ByteArray) : Nat := 1
def strMark (k : Nat) (c : ByteArray) : ByteArray := mtext k
theorem markStrs_any (l : List ByteArray) (v : Value) (F : List Nat) (x : Int) (k : Nat) (w : World) (hx : x = (k : Int)) (h : OwnV w (.row 1 l.length (flat strDats l)) F v) (hF : F.Nodup) (hk0 : 0 < k) (hk1 : k + sumOf strCnt l ≤ 1099511627776) :
 Calls Tryz.prog 28 #[v, .int .i64 x] w fun e w' => e = .returned (.int .i64 ((k + sumOf strCnt l : Nat) : Int)) ∧ OwnV w' (.row 1 (markL strMark strCnt k l).length (flat strDats (markL strMark strCnt k l))) F v ∧ Fr F w w' := by
 subst hx
 obtain ⟨A0, cap0, rfl, hc1, hc2, -⟩ := (h.rep (lo := 0) (hi := w.heap.size) (fun g hg => ⟨Nat.zero_le _, h.lt g hg⟩)).shape
 unfold maxLen at hc2
 have HF := Lib.hid hF
 clear hF
 go_enter Tryz.func28, Tryz.ntmps28
 go_wp2_with fail
 go_loopw [1, 5] (fun m i wr => ∃ j q : Nat, j ≤ l.length ∧ i = .int .i64 j ∧ m = .int .i64 q ∧ Hid (q = k + sumOf strCnt (l.take j)) ∧ OwnV wr (.row 1 l.length (flat strDats (halfM strMark strCnt k l j))) F (.slice A0 l.length cap0) ∧ Fr F w wr) (fun _ i _ => l.length - (intOf i).toNat)
 case atStart => exact ⟨0, k, Nat.zero_le _, rfl, rfl, by simp [sumOf, Hid], by rw [halfM_zero]; exact h, Fr.refl _ _⟩
 case round =>
  clear h
  obtain ⟨j, q, hj, rfl, rfl, hq, ho, hfr⟩ := hrel
  by_cases hlt : j < l.length
  ·obtain ⟨c, hc⟩ : ∃ c, l[j]? = some c := ⟨_, List.getElem?_eq_getElem hlt⟩
   rw [halfM_at hc] at ho
   obtain ⟨g, cap, t, F1, Fe, F2, va, ue, vb, hv, rfl, hown, hva, hue, o1, oe, o2⟩ := ho.elem hlt (halfM_front strDats_len hj) (strDats_len c)
   injection hv with hA _ hcap
   subst hA hcap
   obtain ⟨rfl, rfl⟩ := strOwnOut oe
   obtain ⟨n1, n2, n3, n4, n5, n6, n7⟩ := nodup_elem HF.out
   have hle := sumOf_take_le strCnt l (j + 1)
   rw [sumOf_snoc (b := strCnt) hc] at hle
   have q0 : 0 < q := by have := hq.out; omega
   have q1 : q + strCnt c ≤ 1099511627776 := by have := hq.out; omega
   have hc0 : strCnt c = 1 := rfl
   rw [hc0] at q1
   have HN := Lib.hid (halfM_next (f := strDats) (mk := strMark) (cnt := strCnt) (k := k) hc)
   have HQ := Lib.hid (sumOf_snoc (b := strCnt) hc)
   have HVa := Lib.hid (show va.length = j by omega)
   have HO := Lib.hid (And.intro o1 o2)
   have hT0 := Fr.refl (g :: []) wr
   have HX := Lib.hid (show (∀ b ∈ F1, b ∉ g :: []) ∧ (∀ b ∈ F2, b ∉ g :: []) ∧ (∀ b ∈ g :: [], b ∈ g :: (F1 ++ ([] ++ F2))) from ⟨fun b hb => by simp only [List.mem_cons, not_or]; exact ⟨n5 b hb, n3 b hb⟩, fun b hb => by simp only [List.mem_cons, not_or]; exact ⟨n6 b hb, n4 b hb⟩, fun b hb => mem_elem hb⟩)
   clear hle hc ho o1 o2 hva hue oe n1 n2 n3 n4 n5 n6 n7 hc0
   obtain ⟨⟨u0, d0⟩, f0⟩ := own_at hown j (by omega)
   go_wp2_with fail
   refine (markText_at _ (q) _ (by push_cast; omega) (by omega) (by omega)).mono ?_; rintro e w1 ⟨rfl, hb1⟩
   have hown1 := own_later (hown) hb1
   have hT1 := hT0.trans (Fr.of_below hb1)
   clear hb1 hown hT0 d0 f0
   obtain ⟨⟨u0, d0⟩, f0⟩ := own_at hown1 j (by omega)
   have HT := Lib.hid hT1
   have HW := Lib.hid hown1
   clear hT1 hown1
   go_wp2_with fail
   go_roundw
   case rel =>
    refine ⟨j + 1, q + 1, by omega, by go_num, by go_num, ?_, ?_, ?_⟩
    ·have := HQ.out; have := hq.out; have hc0 : strCnt c = 1 := rfl; show _ = _; omega
    ·rw [HN.out, ← hq.out]
     refine OwnV.put (ue := [.string (strMark q c)]) (own_list ((HW.out.stored _ _).1) ?_) (HO.out.1.fr ((HT.out.set_ (p := ⟨g, _, none⟩) (by simp) _)) HX.out.1) (strOwnIn) (HO.out.2.fr ((HT.out.set_ (p := ⟨g, _, none⟩) (by simp) _)) HX.out.2.1)
     simp (disch := simp) only [set_mid0 HVa.out]
     rfl
    ·exact hfr.trans (((HT.out.set_ (p := ⟨g, _, none⟩) (by simp) _)).mono HX.out.2.2)
   case measure => simp [intOf]; omega
  ·obtain rfl : j = l.length := by omega
   rw [halfM_all] at ho
   rw [List.take_length] at hq
   go_wp2_with fail
   go_ret
   refine ⟨by rw [hq.out]; rfl, ?_, hfr⟩
   rw [markL_len]; exact ho
end Go.Proofs.YtjeomamdlmoghaaGreatDoor
end
section
namespace Go.Proofs.YtjeomamdlmoghaaGreatDoor
open Go.RowKit
theorem RecT.ownOut {w : World} {c : RecT} {F : List Nat} {vs : List Value} (h : OwnVs w c.dats F vs) : ∃ Afields nfields Ffields, F = Ffields ∧ vs = [Value.string c.name, .slice Afields c.fields.length nfields, .int .i64 c.line] ∧ OwnV w (.row 1 c.fields.length (flat strDats c.fields)) Ffields (.slice Afields c.fields.length nfields) := by
 unfold RecT.dats at h
 obtain ⟨G0, H0, v0, t0, rfl, rfl, a0, h⟩ := h.out
 obtain ⟨G1, H1, v1, t1, rfl, rfl, a1, h⟩ := h.out
 obtain ⟨G2, H2, v2, t2, rfl, rfl, a2, h⟩ := h.out
 obtain ⟨rfl, rfl⟩ := h.outNil
 obtain ⟨rfl, rfl⟩ := a0.str_
 obtain ⟨A1, c1, rfl, -, -⟩ := LRep.shape (f := strDats) (a1.rep (lo := 0) (hi := w.heap.size) fun g hg => ⟨Nat.zero_le _, a1.lt g hg⟩)
 obtain ⟨rfl, rfl⟩ := a2.int_
 exact ⟨A1, c1, G1, by simp, rfl, a1⟩
theorem RecT.ownIn {w : World} {c : RecT} {vfields : Value} {Ffields : List Nat} (hfields : OwnV w (.row 1 c.fields.length (flat strDats c.fields)) Ffields vfields) : OwnVs w c.dats Ffields [.string c.name, vfields, Value.int .i64 c.line] := by
 have H : OwnVs w [.str c.name, .row 1 c.fields.length (flat strDats c.fields), .int .i64 c.line] _ [.string c.name, vfields, .int .i64 c.line] := (OwnVs.cons_ .mkStr (OwnVs.cons_ hfields (OwnVs.cons_ .mkInt (OwnVs.nil_ (w := w)))))
 simpa [RecT.dats] using H
def RecT.cnt (c : RecT) : Nat := 1 + sumOf strCnt c.fields + 1
def RecT.mark (k : Nat) (c : RecT) : RecT := { name := mtext (k), fields := markL strMark strCnt (k + 1) c.fields, line := ((k + 1 + sumOf strCnt c.fields : Nat) : Int) }
theorem markRecordTypeS_any (l : List RecT) (v : Value) (F : List Nat) (x : Int) (k : Nat) (w : World) (hx : x = (k : Int)) (h : OwnV w (.row 3 l.length (flat RecT.dats l)) F v) (hF : F.Nodup) (hk0 : 0 < k) (hk1 : k + sumOf RecT.cnt l ≤ 1099511627776) :
 Calls Tryz.prog 27 #[v, .int .i64 x] w fun e w' => e = .returned (.int .i64 ((k + sumOf RecT.cnt l : Nat) : Int)) ∧ OwnV w' (.row 3 (markL RecT.mark RecT.cnt k l).length (flat RecT.dats (markL RecT.mark RecT.cnt k l))) F v ∧ Fr F w w' := by
 subst hx
 obtain ⟨A0, cap0, rfl, hc1, hc2, -⟩ := (h.rep (lo := 0) (hi := w.heap.size) (fun g hg => ⟨Nat.zero_le _, h.lt g hg⟩)).shape
 unfold maxLen at hc2
 have HF := Lib.hid hF
 clear hF
 go_enter Tryz.func27, Tryz.ntmps27
 go_wp2_with fail
 go_loopw [1, 5] (fun m i wr => ∃ j q : Nat, j ≤ l.length ∧ i = .int .i64 j ∧ m = .int .i64 q ∧ Hid (q = k + sumOf RecT.cnt (l.take j)) ∧ OwnV wr (.row 3 l.length (flat RecT.dats (halfM RecT.mark RecT.cnt k l j))) F (.slice A0 l.length cap0) ∧ Fr F w wr) (fun _ i _ => l.length - (intOf i).toNat)
 case atStart => exact ⟨0, k, Nat.zero_le _, rfl, rfl, by simp [sumOf, Hid], by rw [halfM_zero]; exact h, Fr.refl _ _⟩
 case round =>
  clear h
  obtain ⟨j, q, hj, rfl, rfl, hq, ho, hfr⟩ := hrel
  by_cases hlt : j < l.length
  ·obtain ⟨c, hc⟩ : ∃ c, l[j]? = some c := ⟨_, List.getElem?_eq_getElem hlt⟩
   rw [halfM_at hc] at ho
   obtain ⟨g, cap, t, F1, Fe, F2, va, ue, vb, hv, rfl, hown, hva, hue, o1, oe, o2⟩ := ho.elem hlt (halfM_front RecT.dats_len hj) c.dats_len
   injection hv with hA _ hcap
   subst hA hcap
   obtain ⟨Afields, nfields, Ffields, hFe, rfl, rfields⟩ := RecT.ownOut oe
   have hFe := hFe.symm
   subst hFe
   obtain ⟨n1, n2, n3, n4, n5, n6, n7⟩ := nodup_elem HF.out
   have hle := sumOf_take_le RecT.cnt l (j + 1)
   rw [sumOf_snoc (b := RecT.cnt) hc] at hle
   have q0 : 0 < q := by have := hq.out; omega
   have q1 : q + c.cnt ≤ 1099511627776 := by have := hq.out; omega
   have hc0 : c.cnt = 1 + sumOf strCnt c.fields + 1 := rfl
   rw [hc0] at q1
   have HN := Lib.hid (halfM_next (f := RecT.dats) (mk := RecT.mark) (cnt := RecT.cnt) (k := k) hc)
   have HQ := Lib.hid (sumOf_snoc (b := RecT.cnt) hc)
   have HVa := Lib.hid hva
   have HO := Lib.hid (And.intro o1 o2)
   have hT0 := Fr.refl (g :: Ffields) wr
   have HX := Lib.hid (show (∀ b ∈ F1, b ∉ g :: Ffields) ∧ (∀ b ∈ F2, b ∉ g :: Ffields) ∧ (∀ b ∈ g :: Ffields, b ∈ g :: (F1 ++ (Ffields ++ F2))) from ⟨fun b hb => by simp only [List.mem_cons, not_or]; exact ⟨n5 b hb, n3 b hb⟩, fun b hb => by simp only [List.mem_cons, not_or]; exact ⟨n6 b hb, n4 b hb⟩, fun b hb => mem_elem hb⟩)
   have N1 := Lib.hid n1
   have N2 := Lib.hid n2
   have N7 := Lib.hid n7
   clear hle hc ho o1 o2 hva hue oe n1 n2 n3 n4 n5 n6 n7 hc0
   obtain ⟨⟨u0, d0⟩, f0⟩ := own_at hown (j * 3) (by omega)
   have d1 := own_mid hown HVa.out (i := 1) (by omega) rfl
   have f1 := hown.frozenAt (j * 3 + 1)
   obtain ⟨⟨u2, d2⟩, f2⟩ := own_at hown (j * 3 + 2) (by omega)
   go_wp2_with fail
   refine (markText_at _ (q) _ (by push_cast; omega) (by omega) (by omega)).mono ?_; rintro e w1 ⟨rfl, hb1⟩
   have hown1 := own_later (hown) hb1
   have hT1 := hT0.trans (Fr.of_below hb1)
   have rfields' := rfields.fr ((Fr.refl [g] _).trans (Fr.of_below hb1)) (fun b hb => by simpa using N7.out b hb)
   clear rfields
   have rfields := rfields'
   clear rfields'
   clear hb1 hown hT0 d0 f0 d1 f1 d2 f2
   obtain ⟨⟨u0, d0⟩, f0⟩ := own_at hown1 (j * 3) (by omega)
   have d1 := own_mid hown1 HVa.out (i := 1) (by omega) rfl
   have f1 := hown1.frozenAt (j * 3 + 1)
   obtain ⟨⟨u2, d2⟩, f2⟩ := own_at hown1 (j * 3 + 2) (by omega)
   go_wp2_with fail
   refine (markStrs_any c.fields _ Ffields _ (q + 1) _ (by push_cast; omega) (rfields.fr ((Fr.refl [g] _).set_ (p := ⟨g, _, none⟩) (by simp) _) (fun b hb => by simpa using N7.out b hb)) N1.out (by omega) (by omega)).mono ?_; rintro e w2 ⟨rfl, rfields', hb2⟩
   have hown2 := own_list (own_fr ((hown1.stored _ _).1) hb2 N2.out) (show _ = va ++ ([Value.string (mtext (q)), .slice Afields c.fields.length nfields, .int .i64 c.line] ++ vb) by simp (disch := simp) only [set_mid0 HVa.out]; rfl)
   have hT2 := (hT1.set_ (p := ⟨g, _, none⟩) (by simp) _).trans (hb2.mono (by intro b hb; simp [hb]))
   clear rfields
   have rfields := rfields'
   clear rfields'
   clear hb2 hown1 hT1 d0 f0 d1 f1 d2 f2
   obtain ⟨⟨u0, d0⟩, f0⟩ := own_at hown2 (j * 3) (by omega)
   have d1 := own_mid hown2 HVa.out (i := 1) (by omega) rfl
   have f1 := hown2.frozenAt (j * 3 + 1)
   obtain ⟨⟨u2, d2⟩, f2⟩ := own_at hown2 (j * 3 + 2) (by omega)
   have HT := Lib.hid hT2
   have HW := Lib.hid hown2
   clear hT2 hown2
   have Rfields := Lib.hid rfields
   clear rfields
   go_wp2_with fail
   go_roundw
   case rel =>
    refine ⟨j + 1, q + 1 + sumOf strCnt c.fields + 1, by omega, by go_num, by go_num, ?_, ?_, ?_⟩
    ·have := HQ.out; have := hq.out; have hc0 : c.cnt = 1 + sumOf strCnt c.fields + 1 := rfl; show _ = _; omega
    ·rw [HN.out, ← hq.out]
     refine OwnV.put (ue := [.string (RecT.mark q c).name, .slice Afields c.fields.length nfields, .int .i64 (RecT.mark q c).line]) (own_list ((HW.out.stored _ _).1) ?_) (HO.out.1.fr ((HT.out.set_ (p := ⟨g, _, none⟩) (by simp) _)) HX.out.1) (RecT.ownIn (Rfields.out.fr ((Fr.refl [g] _).set_ (p := ⟨g, _, none⟩) (by simp) _) (fun b hb => by simpa using N7.out b hb))) (HO.out.2.fr ((HT.out.set_ (p := ⟨g, _, none⟩) (by simp) _)) HX.out.2.1)
     simp (disch := simp) only [set_mid HVa.out]
     rfl
    ·exact hfr.trans (((HT.out.set_ (p := ⟨g, _, none⟩) (by simp) _)).mono HX.out.2.2)
   case measure => simp [intOf]; omega
  ·obtain rfl : j = l.length := by omega
   rw [halfM_all] at ho
   rw [List.take_length] at hq
   go_wp2_with fail
   go_ret
   refine ⟨by rw [hq.out]; rfl, ?_, hfr⟩
   rw [markL_len]; exact ho
end Go.Proofs.YtjeomamdlmoghaaGreatDoor
end
section
namespace Go.Proofs.YtjeomamdlmoghaaGreatDoor
open Go.RowKit
theorem CoreT.ownOut {w : World} {c : CoreT} {F : List Nat} {vs : List Value} (h : OwnVs w c.dats F vs) : ∃ Akids nkids Fkids, F = Fkids ∧ vs = [Value.int .i64 c.kind, .int .i64 c.op, .int .i64 c.number, .int .i64 c.line, .string c.text, .slice Akids c.kids.length nkids] ∧ OwnV w (.row 6 c.kids.length (flat CoreT.dats c.kids)) Fkids (.slice Akids c.kids.length nkids) := by
 rw [CoreT.dats_g] at h
 obtain ⟨G0, H0, v0, t0, rfl, rfl, a0, h⟩ := h.out
 obtain ⟨G1, H1, v1, t1, rfl, rfl, a1, h⟩ := h.out
 obtain ⟨G2, H2, v2, t2, rfl, rfl, a2, h⟩ := h.out
 obtain ⟨G3, H3, v3, t3, rfl, rfl, a3, h⟩ := h.out
 obtain ⟨G4, H4, v4, t4, rfl, rfl, a4, h⟩ := h.out
 obtain ⟨G5, H5, v5, t5, rfl, rfl, a5, h⟩ := h.out
 obtain ⟨rfl, rfl⟩ := h.outNil
 obtain ⟨rfl, rfl⟩ := a0.int_
 obtain ⟨rfl, rfl⟩ := a1.int_
 obtain ⟨rfl, rfl⟩ := a2.int_
 obtain ⟨rfl, rfl⟩ := a3.int_
 obtain ⟨rfl, rfl⟩ := a4.str_
 obtain ⟨A5, c5, rfl, -, -⟩ := LRep.shape (f := CoreT.dats) (a5.rep (lo := 0) (hi := w.heap.size) fun g hg => ⟨Nat.zero_le _, a5.lt g hg⟩)
 exact ⟨A5, c5, G5, by simp, rfl, a5⟩
theorem CoreT.ownIn {w : World} {c : CoreT} {vkids : Value} {Fkids : List Nat} (hkids : OwnV w (.row 6 c.kids.length (flat CoreT.dats c.kids)) Fkids vkids) : OwnVs w c.dats Fkids [Value.int .i64 c.kind, .int .i64 c.op, .int .i64 c.number, .int .i64 c.line, .string c.text, vkids] := by
 have H : OwnVs w [.int .i64 c.kind, .int .i64 c.op, .int .i64 c.number, .int .i64 c.line, .str c.text, .row 6 c.kids.length (flat CoreT.dats c.kids)] _ [.int .i64 c.kind, .int .i64 c.op, .int .i64 c.number, .int .i64 c.line, .string c.text, vkids] := (OwnVs.cons_ .mkInt (OwnVs.cons_ .mkInt (OwnVs.cons_ .mkInt (OwnVs.cons_ .mkInt (OwnVs.cons_ .mkStr (OwnVs.cons_ hkids (OwnVs.nil_ (w := w))))))))
 rw [CoreT.dats_g]; simpa using H
mutual
def CoreT.cnt : CoreT → Nat
 | .mk _ _ _ _ _ kids => 1 + 1 + 1 + 1 + 1 + cntK kids
def cntK : List CoreT → Nat
 | [] => 0
 | c :: l => c.cnt + cntK l
end
mutual
def CoreT.mark : Nat → CoreT → CoreT
 | k, .mk _ _ _ _ _ kids => .mk (k : Int) ((k : Int) + 1) ((k : Int) + 1 + 1) ((k : Int) + 1 + 1 + 1) (mtext (k + 1 + 1 + 1 + 1)) (markK (k + 1 + 1 + 1 + 1 + 1) kids)
def markK : Nat → List CoreT → List CoreT
 | _, [] => []
 | k, c :: l => CoreT.mark k c :: markK (k + c.cnt) l
end
theorem cntK_sum (l : List CoreT) : cntK l = sumOf CoreT.cnt l := by
 induction l with
 | nil => simp only [cntK, sumOf]
 | cons c l ih => simp only [cntK, sumOf, ih]
theorem CoreT.cnt_g (c : CoreT) : c.cnt = 1 + 1 + 1 + 1 + 1 + sumOf CoreT.cnt c.kids := by rw [← cntK_sum]; cases c; simp only [CoreT.cnt, CoreT.kids]
theorem markK_l : ∀ (l : List CoreT) (k : Nat), markK k l = markL CoreT.mark CoreT.cnt k l
 | [], k => by simp only [markK, markL]
 | c :: l, k => by simp only [markK, markL, markK_l l]
def CoreT.markF (k : Nat) (c : CoreT) : CoreT := .mk (k : Int) ((k : Int) + 1) ((k : Int) + 1 + 1) ((k : Int) + 1 + 1 + 1) (mtext (k + 1 + 1 + 1 + 1)) (markL CoreT.mark CoreT.cnt (k + 1 + 1 + 1 + 1 + 1) c.kids)
theorem CoreT.mark_g (k : Nat) (c : CoreT) : CoreT.mark k c = CoreT.markF k c := by unfold CoreT.markF; rw [← markK_l]; cases c; simp only [CoreT.mark, CoreT.kids]
def MkOk (l : List CoreT) : Prop := ∀ (v : Value) (F : List Nat) (x : Int) (k : Nat) (w : World) (hx : x = (k : Int)) (h : OwnV w (.row 6 l.length (flat CoreT.dats l)) F v) (hF : F.Nodup) (hk0 : 0 < k) (hk1 : k + sumOf CoreT.cnt l ≤ 1099511627776),
 Calls Tryz.prog 58 #[v, .int .i64 x] w fun e w' => e = .returned (.int .i64 ((k + sumOf CoreT.cnt l : Nat) : Int)) ∧ OwnV w' (.row 6 (markL CoreT.mark CoreT.cnt k l).length (flat CoreT.dats (markL CoreT.mark CoreT.cnt k l))) F v ∧ Fr F w w'
theorem markCoreS_of (l : List CoreT) (H : ∀ c ∈ l, MkOk c.kids) : MkOk l := by
 intro v F x k w hx h hF hk0 hk1
 have HH := Lib.hid H
 clear H
 subst hx
 obtain ⟨A0, cap0, rfl, hc1, hc2, -⟩ := (h.rep (lo := 0) (hi := w.heap.size) (fun g hg => ⟨Nat.zero_le _, h.lt g hg⟩)).shape
 unfold maxLen at hc2
 have HF := Lib.hid hF
 clear hF
 go_enter Tryz.func58, Tryz.ntmps58
 go_wp2_with fail
 go_loopw [1, 5] (fun m i wr => ∃ j q : Nat, j ≤ l.length ∧ i = .int .i64 j ∧ m = .int .i64 q ∧ Hid (q = k + sumOf CoreT.cnt (l.take j)) ∧ OwnV wr (.row 6 l.length (flat CoreT.dats (halfM CoreT.mark CoreT.cnt k l j))) F (.slice A0 l.length cap0) ∧ Fr F w wr) (fun _ i _ => l.length - (intOf i).toNat)
 case atStart => exact ⟨0, k, Nat.zero_le _, rfl, rfl, by simp [sumOf, Hid], by rw [halfM_zero]; exact h, Fr.refl _ _⟩
 case round =>
  clear h
  obtain ⟨j, q, hj, rfl, rfl, hq, ho, hfr⟩ := hrel
  by_cases hlt : j < l.length
  ·obtain ⟨c, hc⟩ : ∃ c, l[j]? = some c := ⟨_, List.getElem?_eq_getElem hlt⟩
   have hih := HH.out c (List.mem_of_getElem? hc)
   rw [halfM_at hc] at ho
   obtain ⟨g, cap, t, F1, Fe, F2, va, ue, vb, hv, rfl, hown, hva, hue, o1, oe, o2⟩ := ho.elem hlt (halfM_front CoreT.dats_len hj) c.dats_len
   injection hv with hA _ hcap
   subst hA hcap
   obtain ⟨Akids, nkids, Fkids, hFe, rfl, rkids⟩ := CoreT.ownOut oe
   have hFe := hFe.symm
   subst hFe
   obtain ⟨n1, n2, n3, n4, n5, n6, n7⟩ := nodup_elem HF.out
   have hle := sumOf_take_le CoreT.cnt l (j + 1)
   rw [sumOf_snoc (b := CoreT.cnt) hc] at hle
   have q0 : 0 < q := by have := hq.out; omega
   have q1 : q + c.cnt ≤ 1099511627776 := by have := hq.out; omega
   have hc0 : c.cnt = 1 + 1 + 1 + 1 + 1 + sumOf CoreT.cnt c.kids := CoreT.cnt_g c
   rw [hc0] at q1
   have HN := Lib.hid (halfM_next (f := CoreT.dats) (mk := CoreT.mark) (cnt := CoreT.cnt) (k := k) hc)
   have HQ := Lib.hid (sumOf_snoc (b := CoreT.cnt) hc)
   have HVa := Lib.hid hva
   have HO := Lib.hid (And.intro o1 o2)
   have hT0 := Fr.refl (g :: Fkids) wr
   have HX := Lib.hid (show (∀ b ∈ F1, b ∉ g :: Fkids) ∧ (∀ b ∈ F2, b ∉ g :: Fkids) ∧ (∀ b ∈ g :: Fkids, b ∈ g :: (F1 ++ (Fkids ++ F2))) from ⟨fun b hb => by simp only [List.mem_cons, not_or]; exact ⟨n5 b hb, n3 b hb⟩, fun b hb => by simp only [List.mem_cons, not_or]; exact ⟨n6 b hb, n4 b hb⟩, fun b hb => mem_elem hb⟩)
   have N1 := Lib.hid n1
   have N2 := Lib.hid n2
   have N7 := Lib.hid n7
   clear hle hc ho o1 o2 hva hue oe n1 n2 n3 n4 n5 n6 n7 hc0
   obtain ⟨⟨u0, d0⟩, f0⟩ := own_at hown (j * 6) (by omega)
   obtain ⟨⟨u1, d1⟩, f1⟩ := own_at hown (j * 6 + 1) (by omega)
   obtain ⟨⟨u2, d2⟩, f2⟩ := own_at hown (j * 6 + 2) (by omega)
   obtain ⟨⟨u3, d3⟩, f3⟩ := own_at hown (j * 6 + 3) (by omega)
   obtain ⟨⟨u4, d4⟩, f4⟩ := own_at hown (j * 6 + 4) (by omega)
   have d5 := own_mid hown HVa.out (i := 5) (by omega) rfl
   have f5 := hown.frozenAt (j * 6 + 5)
   go_wp2_with fail
   refine (markText_at _ (q + 1 + 1 + 1 + 1) _ (by push_cast; omega) (by omega) (by omega)).mono ?_; rintro e w1 ⟨rfl, hb1⟩
   have hown1 := own_list (own_later (((((hown.stored _ _).1.stored _ _).1.stored _ _).1.stored _ _).1) hb1) (show _ = va ++ ([Value.int .i64 ((q : Int)), .int .i64 ((q : Int) + 1), .int .i64 ((q : Int) + 1 + 1), .int .i64 ((q : Int) + 1 + 1 + 1), .string c.text, .slice Akids c.kids.length nkids] ++ vb) by simp (disch := simp) only [set_mid0 HVa.out, set_mid HVa.out]; rfl)
   have hT1 := ((((hT0.set_ (p := ⟨g, _, none⟩) (by simp) _).set_ (p := ⟨g, _, none⟩) (by simp) _).set_ (p := ⟨g, _, none⟩) (by simp) _).set_ (p := ⟨g, _, none⟩) (by simp) _).trans (Fr.of_below hb1)
   have rkids' := rkids.fr ((((((Fr.refl [g] _).set_ (p := ⟨g, _, none⟩) (by simp) _).set_ (p := ⟨g, _, none⟩) (by simp) _).set_ (p := ⟨g, _, none⟩) (by simp) _).set_ (p := ⟨g, _, none⟩) (by simp) _).trans (Fr.of_below hb1)) (fun b hb => by simpa using N7.out b hb)
   clear rkids
   have rkids := rkids'
   clear rkids'
   clear hb1 hown hT0 d0 f0 d1 f1 d2 f2 d3 f3 d4 f4 d5 f5
   obtain ⟨⟨u0, d0⟩, f0⟩ := own_at hown1 (j * 6) (by omega)
   obtain ⟨⟨u1, d1⟩, f1⟩ := own_at hown1 (j * 6 + 1) (by omega)
   obtain ⟨⟨u2, d2⟩, f2⟩ := own_at hown1 (j * 6 + 2) (by omega)
   obtain ⟨⟨u3, d3⟩, f3⟩ := own_at hown1 (j * 6 + 3) (by omega)
   obtain ⟨⟨u4, d4⟩, f4⟩ := own_at hown1 (j * 6 + 4) (by omega)
   have d5 := own_mid hown1 HVa.out (i := 5) (by omega) rfl
   have f5 := hown1.frozenAt (j * 6 + 5)
   go_wp2_with fail
   refine (hih _ Fkids _ (q + 1 + 1 + 1 + 1 + 1) _ (by push_cast; omega) (rkids.fr ((Fr.refl [g] _).set_ (p := ⟨g, _, none⟩) (by simp) _) (fun b hb => by simpa using N7.out b hb)) N1.out (by omega) (by omega)).mono ?_; rintro e w2 ⟨rfl, rkids', hb2⟩
   have hown2 := own_list (own_fr ((hown1.stored _ _).1) hb2 N2.out) (show _ = va ++ ([Value.int .i64 ((q : Int)), .int .i64 ((q : Int) + 1), .int .i64 ((q : Int) + 1 + 1), .int .i64 ((q : Int) + 1 + 1 + 1), .string (mtext (q + 1 + 1 + 1 + 1)), .slice Akids c.kids.length nkids] ++ vb) by simp (disch := simp) only [set_mid HVa.out]; rfl)
   have hT2 := (hT1.set_ (p := ⟨g, _, none⟩) (by simp) _).trans (hb2.mono (by intro b hb; simp [hb]))
   clear rkids
   have rkids := rkids'
   clear rkids'
   clear hb2 hown1 hT1 d0 f0 d1 f1 d2 f2 d3 f3 d4 f4 d5 f5
   have HT := Lib.hid hT2
   have HW := Lib.hid hown2
   clear hT2 hown2
   have Rkids := Lib.hid rkids
   clear rkids
   go_wp2_with fail
   go_roundw
   case rel =>
    refine ⟨j + 1, q + 1 + 1 + 1 + 1 + 1 + sumOf CoreT.cnt c.kids, by omega, by go_num, by go_num, ?_, ?_, ?_⟩
    ·have := HQ.out; have := hq.out; have hc0 : c.cnt = 1 + 1 + 1 + 1 + 1 + sumOf CoreT.cnt c.kids := CoreT.cnt_g c; show _ = _; omega
    ·rw [HN.out, ← hq.out, CoreT.mark_g]
     refine OwnV.put (ue := [.int .i64 (CoreT.markF q c).kind, .int .i64 (CoreT.markF q c).op, .int .i64 (CoreT.markF q c).number, .int .i64 (CoreT.markF q c).line, .string (CoreT.markF q c).text, .slice Akids c.kids.length nkids]) (own_list (HW.out) ?_) (HO.out.1.fr (HT.out) HX.out.1) (CoreT.ownIn (Rkids.out.fr (Fr.refl [g] _) (fun b hb => by simpa using N7.out b hb))) (HO.out.2.fr (HT.out) HX.out.2.1)
     rfl
    ·exact hfr.trans ((HT.out).mono HX.out.2.2)
   case measure => simp [intOf]; omega
  ·obtain rfl : j = l.length := by omega
   rw [halfM_all] at ho
   rw [List.take_length] at hq
   go_wp2_with fail
   go_ret
   refine ⟨by rw [hq.out]; rfl, ?_, hfr⟩
   rw [markL_len]; exact ho
theorem markCoreS_any (l : List CoreT) : MkOk l := markCoreS_of l fun c _ => CoreT.ind (P := fun c => MkOk c.kids) (fun c h => markCoreS_of c.kids h) c
end Go.Proofs.YtjeomamdlmoghaaGreatDoor
end
section
namespace Go.Proofs.YtjeomamdlmoghaaGreatDoor
open Go.RowKit
theorem RouT.ownOut {w : World} {c : RouT} {F : List Nat} {vs : List Value} (h : OwnVs w c.dats F vs) : ∃ Aslots nslots Fslots Abody_kids nbody_kids Fbody_kids, F = (Fslots ++ Fbody_kids) ∧ vs = [Value.string c.name, .int .i64 c.params, .slice Aslots c.slots.length nslots, .int .i64 c.body_kind, .int .i64 c.body_op, .int .i64 c.body_number, .int .i64 c.body_line, .string c.body_text, .slice Abody_kids c.body_kids.length nbody_kids] ∧ OwnV w (.row 1 c.slots.length (flat strDats c.slots)) Fslots (.slice Aslots c.slots.length nslots) ∧ OwnV w (.row 6 c.body_kids.length (flat CoreT.dats c.body_kids)) Fbody_kids (.slice Abody_kids c.body_kids.length nbody_kids) := by
 unfold RouT.dats at h
 obtain ⟨G0, H0, v0, t0, rfl, rfl, a0, h⟩ := h.out
 obtain ⟨G1, H1, v1, t1, rfl, rfl, a1, h⟩ := h.out
 obtain ⟨G2, H2, v2, t2, rfl, rfl, a2, h⟩ := h.out
 obtain ⟨G3, H3, v3, t3, rfl, rfl, a3, h⟩ := h.out
 obtain ⟨G4, H4, v4, t4, rfl, rfl, a4, h⟩ := h.out
 obtain ⟨G5, H5, v5, t5, rfl, rfl, a5, h⟩ := h.out
 obtain ⟨G6, H6, v6, t6, rfl, rfl, a6, h⟩ := h.out
 obtain ⟨G7, H7, v7, t7, rfl, rfl, a7, h⟩ := h.out
 obtain ⟨G8, H8, v8, t8, rfl, rfl, a8, h⟩ := h.out
 obtain ⟨rfl, rfl⟩ := h.outNil
 obtain ⟨rfl, rfl⟩ := a0.str_
 obtain ⟨rfl, rfl⟩ := a1.int_
 obtain ⟨A2, c2, rfl, -, -⟩ := LRep.shape (f := strDats) (a2.rep (lo := 0) (hi := w.heap.size) fun g hg => ⟨Nat.zero_le _, a2.lt g hg⟩)
 obtain ⟨rfl, rfl⟩ := a3.int_
 obtain ⟨rfl, rfl⟩ := a4.int_
 obtain ⟨rfl, rfl⟩ := a5.int_
 obtain ⟨rfl, rfl⟩ := a6.int_
 obtain ⟨rfl, rfl⟩ := a7.str_
 obtain ⟨A8, c8, rfl, -, -⟩ := LRep.shape (f := CoreT.dats) (a8.rep (lo := 0) (hi := w.heap.size) fun g hg => ⟨Nat.zero_le _, a8.lt g hg⟩)
 exact ⟨A2, c2, G2, A8, c8, G8, by simp, rfl, a2, a8⟩
theorem RouT.ownIn {w : World} {c : RouT} {vslots : Value} {Fslots : List Nat} (hslots : OwnV w (.row 1 c.slots.length (flat strDats c.slots)) Fslots vslots) {vbody_kids : Value} {Fbody_kids : List Nat} (hbody_kids : OwnV w (.row 6 c.body_kids.length (flat CoreT.dats c.body_kids)) Fbody_kids vbody_kids) : OwnVs w c.dats (Fslots ++ Fbody_kids) [.string c.name, Value.int .i64 c.params, vslots, .int .i64 c.body_kind, .int .i64 c.body_op, .int .i64 c.body_number, .int .i64 c.body_line, .string c.body_text, vbody_kids] := by
 have H : OwnVs w [.str c.name, .int .i64 c.params, .row 1 c.slots.length (flat strDats c.slots), .int .i64 c.body_kind, .int .i64 c.body_op, .int .i64 c.body_number, .int .i64 c.body_line, .str c.body_text, .row 6 c.body_kids.length (flat CoreT.dats c.body_kids)] _ [.string c.name, .int .i64 c.params, vslots, .int .i64 c.body_kind, .int .i64 c.body_op, .int .i64 c.body_number, .int .i64 c.body_line, .string c.body_text, vbody_kids] := (OwnVs.cons_ .mkStr (OwnVs.cons_ .mkInt (OwnVs.cons_ hslots (OwnVs.cons_ .mkInt (OwnVs.cons_ .mkInt (OwnVs.cons_ .mkInt (OwnVs.cons_ .mkInt (OwnVs.cons_ .mkStr (OwnVs.cons_ hbody_kids (OwnVs.nil_ (w := w)))))))))))
 simpa [RouT.dats] using H
def RouT.cnt (c : RouT) : Nat := 1 + 1 + sumOf strCnt c.slots + 1 + 1 + 1 + 1 + 1 + sumOf CoreT.cnt c.body_kids
def RouT.mark (k : Nat) (c : RouT) : RouT := { name := mtext (k), params := (k : Int) + 1, slots := markL strMark strCnt (k + 1 + 1) c.slots, body := (CoreT.mk (((k + 1 + 1 + sumOf strCnt c.slots : Nat) : Int)) (((k + 1 + 1 + sumOf strCnt c.slots : Nat) : Int) + 1) (((k + 1 + 1 + sumOf strCnt c.slots : Nat) : Int) + 1 + 1) (((k + 1 + 1 + sumOf strCnt c.slots : Nat) : Int) + 1 + 1 + 1) (mtext (k + 1 + 1 + sumOf strCnt c.slots + 1 + 1 + 1 + 1)) (markL CoreT.mark CoreT.cnt (k + 1 + 1 + sumOf strCnt c.slots + 1 + 1 + 1 + 1 + 1) c.body_kids)) }
theorem markRoutineS_any (l : List RouT) (v : Value) (F : List Nat) (x : Int) (k : Nat) (w : World) (hx : x = (k : Int)) (h : OwnV w (.row 9 l.length (flat RouT.dats l)) F v) (hF : F.Nodup) (hk0 : 0 < k) (hk1 : k + sumOf RouT.cnt l ≤ 1099511627776) :
 Calls Tryz.prog 26 #[v, .int .i64 x] w fun e w' => e = .returned (.int .i64 ((k + sumOf RouT.cnt l : Nat) : Int)) ∧ OwnV w' (.row 9 (markL RouT.mark RouT.cnt k l).length (flat RouT.dats (markL RouT.mark RouT.cnt k l))) F v ∧ Fr F w w' := by
 subst hx
 obtain ⟨A0, cap0, rfl, hc1, hc2, -⟩ := (h.rep (lo := 0) (hi := w.heap.size) (fun g hg => ⟨Nat.zero_le _, h.lt g hg⟩)).shape
 unfold maxLen at hc2
 have HF := Lib.hid hF
 clear hF
 go_enter Tryz.func26, Tryz.ntmps26
 go_wp2_with fail
 go_loopw [1, 5] (fun m i wr => ∃ j q : Nat, j ≤ l.length ∧ i = .int .i64 j ∧ m = .int .i64 q ∧ Hid (q = k + sumOf RouT.cnt (l.take j)) ∧ OwnV wr (.row 9 l.length (flat RouT.dats (halfM RouT.mark RouT.cnt k l j))) F (.slice A0 l.length cap0) ∧ Fr F w wr) (fun _ i _ => l.length - (intOf i).toNat)
 case atStart => exact ⟨0, k, Nat.zero_le _, rfl, rfl, by simp [sumOf, Hid], by rw [halfM_zero]; exact h, Fr.refl _ _⟩
 case round =>
  clear h
  obtain ⟨j, q, hj, rfl, rfl, hq, ho, hfr⟩ := hrel
  by_cases hlt : j < l.length
  ·obtain ⟨c, hc⟩ : ∃ c, l[j]? = some c := ⟨_, List.getElem?_eq_getElem hlt⟩
   rw [halfM_at hc] at ho
   obtain ⟨g, cap, t, F1, Fe, F2, va, ue, vb, hv, rfl, hown, hva, hue, o1, oe, o2⟩ := ho.elem hlt (halfM_front RouT.dats_len hj) c.dats_len
   injection hv with hA _ hcap
   subst hA hcap
   obtain ⟨Aslots, nslots, Fslots, Abody_kids, nbody_kids, Fbody_kids, hFe, rfl, rslots, rbody_kids⟩ := RouT.ownOut oe
   have hFe := hFe.symm
   subst hFe
   obtain ⟨n1, n2, n3, n4, n5, n6, n7⟩ := nodup_elem HF.out
   have hle := sumOf_take_le RouT.cnt l (j + 1)
   rw [sumOf_snoc (b := RouT.cnt) hc] at hle
   have q0 : 0 < q := by have := hq.out; omega
   have q1 : q + c.cnt ≤ 1099511627776 := by have := hq.out; omega
   have hc0 : c.cnt = 1 + 1 + sumOf strCnt c.slots + 1 + 1 + 1 + 1 + 1 + sumOf CoreT.cnt c.body_kids := rfl
   rw [hc0] at q1
   have HN := Lib.hid (halfM_next (f := RouT.dats) (mk := RouT.mark) (cnt := RouT.cnt) (k := k) hc)
   have HQ := Lib.hid (sumOf_snoc (b := RouT.cnt) hc)
   have HVa := Lib.hid hva
   have HO := Lib.hid (And.intro o1 o2)
   have hT0 := Fr.refl (g :: (Fslots ++ Fbody_kids)) wr
   have HX := Lib.hid (show (∀ b ∈ F1, b ∉ g :: (Fslots ++ Fbody_kids)) ∧ (∀ b ∈ F2, b ∉ g :: (Fslots ++ Fbody_kids)) ∧ (∀ b ∈ g :: (Fslots ++ Fbody_kids), b ∈ g :: (F1 ++ ((Fslots ++ Fbody_kids) ++ F2))) from ⟨fun b hb => by simp only [List.mem_cons, not_or]; exact ⟨n5 b hb, n3 b hb⟩, fun b hb => by simp only [List.mem_cons, not_or]; exact ⟨n6 b hb, n4 b hb⟩, fun b hb => mem_elem hb⟩)
   have nF := n1
   obtain ⟨p0, s0, m0, nF⟩ := nodup_dis nF
   have m1 := nF
   clear nF
   have N1slots := Lib.hid m0
   have N2slots := Lib.hid (show g ∉ Fslots from fun hb => n2 (by simp [hb]))
   have N7slots := Lib.hid (show ∀ b ∈ Fslots, b ≠ g from fun b hb => n7 b (by simp [hb]))
   have Xslots_body_kids := Lib.hid (show ∀ b ∈ Fslots, b ∉ Fbody_kids from fun b hb hb' => p0 b hb (by simp [hb']))
   have N1body_kids := Lib.hid m1
   have N2body_kids := Lib.hid (show g ∉ Fbody_kids from fun hb => n2 (by simp [hb]))
   have N7body_kids := Lib.hid (show ∀ b ∈ Fbody_kids, b ≠ g from fun b hb => n7 b (by simp [hb]))
   have Xbody_kids_slots := Lib.hid (show ∀ b ∈ Fbody_kids, b ∉ Fslots from fun b hb => s0 b (by simp [hb]))
   clear p0 s0 m0 m1
   clear hle hc ho o1 o2 hva hue oe n1 n2 n3 n4 n5 n6 n7 hc0
   obtain ⟨⟨u0, d0⟩, f0⟩ := own_at hown (j * 9) (by omega)
   obtain ⟨⟨u1, d1⟩, f1⟩ := own_at hown (j * 9 + 1) (by omega)
   have d2 := own_mid hown HVa.out (i := 2) (by omega) rfl
   have f2 := hown.frozenAt (j * 9 + 2)
   obtain ⟨⟨u3, d3⟩, f3⟩ := own_at hown (j * 9 + 3) (by omega)
   obtain ⟨⟨u4, d4⟩, f4⟩ := own_at hown (j * 9 + 4) (by omega)
   obtain ⟨⟨u5, d5⟩, f5⟩ := own_at hown (j * 9 + 5) (by omega)
   obtain ⟨⟨u6, d6⟩, f6⟩ := own_at hown (j * 9 + 6) (by omega)
   obtain ⟨⟨u7, d7⟩, f7⟩ := own_at hown (j * 9 + 7) (by omega)
   have d8 := own_mid hown HVa.out (i := 8) (by omega) rfl
   have f8 := hown.frozenAt (j * 9 + 8)
   go_wp2_with fail
   refine (markText_at _ (q) _ (by push_cast; omega) (by omega) (by omega)).mono ?_; rintro e w1 ⟨rfl, hb1⟩
   have hown1 := own_later (hown) hb1
   have hT1 := hT0.trans (Fr.of_below hb1)
   have rslots' := rslots.fr ((Fr.refl [g] _).trans (Fr.of_below hb1)) (fun b hb => by simpa using N7slots.out b hb)
   clear rslots
   have rslots := rslots'
   clear rslots'
   have rbody_kids' := rbody_kids.fr ((Fr.refl [g] _).trans (Fr.of_below hb1)) (fun b hb => by simpa using N7body_kids.out b hb)
   clear rbody_kids
   have rbody_kids := rbody_kids'
   clear rbody_kids'
   clear hb1 hown hT0 d0 f0 d1 f1 d2 f2 d3 f3 d4 f4 d5 f5 d6 f6 d7 f7 d8 f8
   obtain ⟨⟨u0, d0⟩, f0⟩ := own_at hown1 (j * 9) (by omega)
   obtain ⟨⟨u1, d1⟩, f1⟩ := own_at hown1 (j * 9 + 1) (by omega)
   have d2 := own_mid hown1 HVa.out (i := 2) (by omega) rfl
   have f2 := hown1.frozenAt (j * 9 + 2)
   obtain ⟨⟨u3, d3⟩, f3⟩ := own_at hown1 (j * 9 + 3) (by omega)
   obtain ⟨⟨u4, d4⟩, f4⟩ := own_at hown1 (j * 9 + 4) (by omega)
   obtain ⟨⟨u5, d5⟩, f5⟩ := own_at hown1 (j * 9 + 5) (by omega)
   obtain ⟨⟨u6, d6⟩, f6⟩ := own_at hown1 (j * 9 + 6) (by omega)
   obtain ⟨⟨u7, d7⟩, f7⟩ := own_at hown1 (j * 9 + 7) (by omega)
   have d8 := own_mid hown1 HVa.out (i := 8) (by omega) rfl
   have f8 := hown1.frozenAt (j * 9 + 8)
   go_wp2_with fail
   refine (markStrs_any c.slots _ Fslots _ (q + 1 + 1) _ (by push_cast; omega) (rslots.fr (((Fr.refl [g] _).set_ (p := ⟨g, _, none⟩) (by simp) _).set_ (p := ⟨g, _, none⟩) (by simp) _) (fun b hb => by simpa using N7slots.out b hb)) N1slots.out (by omega) (by omega)).mono ?_; rintro e w2 ⟨rfl, rslots', hb2⟩
   have hown2 := own_list (own_fr (((hown1.stored _ _).1.stored _ _).1) hb2 N2slots.out) (show _ = va ++ ([Value.string (mtext (q)), .int .i64 ((q : Int) + 1), .slice Aslots c.slots.length nslots, .int .i64 c.body_kind, .int .i64 c.body_op, .int .i64 c.body_number, .int .i64 c.body_line, .string c.body_text, .slice Abody_kids c.body_kids.length nbody_kids] ++ vb) by simp (disch := simp) only [set_mid0 HVa.out, set_mid HVa.out]; rfl)
   have hT2 := ((hT1.set_ (p := ⟨g, _, none⟩) (by simp) _).set_ (p := ⟨g, _, none⟩) (by simp) _).trans (hb2.mono (by intro b hb; simp [hb]))
   clear rslots
   have rslots := rslots'
   clear rslots'
   have rbody_kids' := (rbody_kids.fr (((Fr.refl [g] _).set_ (p := ⟨g, _, none⟩) (by simp) _).set_ (p := ⟨g, _, none⟩) (by simp) _) (fun b hb => by simpa using N7body_kids.out b hb)).fr hb2 Xbody_kids_slots.out
   clear rbody_kids
   have rbody_kids := rbody_kids'
   clear rbody_kids'
   clear hb2 hown1 hT1 d0 f0 d1 f1 d2 f2 d3 f3 d4 f4 d5 f5 d6 f6 d7 f7 d8 f8
   obtain ⟨⟨u0, d0⟩, f0⟩ := own_at hown2 (j * 9) (by omega)
   obtain ⟨⟨u1, d1⟩, f1⟩ := own_at hown2 (j * 9 + 1) (by omega)
   have d2 := own_mid hown2 HVa.out (i := 2) (by omega) rfl
   have f2 := hown2.frozenAt (j * 9 + 2)
   obtain ⟨⟨u3, d3⟩, f3⟩ := own_at hown2 (j * 9 + 3) (by omega)
   obtain ⟨⟨u4, d4⟩, f4⟩ := own_at hown2 (j * 9 + 4) (by omega)
   obtain ⟨⟨u5, d5⟩, f5⟩ := own_at hown2 (j * 9 + 5) (by omega)
   obtain ⟨⟨u6, d6⟩, f6⟩ := own_at hown2 (j * 9 + 6) (by omega)
   obtain ⟨⟨u7, d7⟩, f7⟩ := own_at hown2 (j * 9 + 7) (by omega)
   have d8 := own_mid hown2 HVa.out (i := 8) (by omega) rfl
   have f8 := hown2.frozenAt (j * 9 + 8)
   go_wp2_with fail
   refine (markText_at _ (q + 1 + 1 + sumOf strCnt c.slots + 1 + 1 + 1 + 1) _ (by push_cast; omega) (by omega) (by omega)).mono ?_; rintro e w3 ⟨rfl, hb3⟩
   have hown3 := own_list (own_later (((((hown2.stored _ _).1.stored _ _).1.stored _ _).1.stored _ _).1) hb3) (show _ = va ++ ([Value.string (mtext (q)), .int .i64 ((q : Int) + 1), .slice Aslots c.slots.length nslots, .int .i64 (((q + 1 + 1 + sumOf strCnt c.slots : Nat) : Int)), .int .i64 (((q + 1 + 1 + sumOf strCnt c.slots : Nat) : Int) + 1), .int .i64 (((q + 1 + 1 + sumOf strCnt c.slots : Nat) : Int) + 1 + 1), .int .i64 (((q + 1 + 1 + sumOf strCnt c.slots : Nat) : Int) + 1 + 1 + 1), .string c.body_text, .slice Abody_kids c.body_kids.length nbody_kids] ++ vb) by simp (disch := simp) only [set_mid HVa.out, set_mid2 HVa.out]; rfl)
   have hT3 := ((((hT2.set_ (p := ⟨g, _, none⟩) (by simp) _).set_ (p := ⟨g, _, none⟩) (by simp) _).set_ (p := ⟨g, _, none⟩) (by simp) _).set_ (p := ⟨g, _, none⟩) (by simp) _).trans (Fr.of_below hb3)
   have rslots' := rslots.fr ((((((Fr.refl [g] _).set_ (p := ⟨g, _, none⟩) (by simp) _).set_ (p := ⟨g, _, none⟩) (by simp) _).set_ (p := ⟨g, _, none⟩) (by simp) _).set_ (p := ⟨g, _, none⟩) (by simp) _).trans (Fr.of_below hb3)) (fun b hb => by simpa using N7slots.out b hb)
   clear rslots
   have rslots := rslots'
   clear rslots'
   have rbody_kids' := rbody_kids.fr ((((((Fr.refl [g] _).set_ (p := ⟨g, _, none⟩) (by simp) _).set_ (p := ⟨g, _, none⟩) (by simp) _).set_ (p := ⟨g, _, none⟩) (by simp) _).set_ (p := ⟨g, _, none⟩) (by simp) _).trans (Fr.of_below hb3)) (fun b hb => by simpa using N7body_kids.out b hb)
   clear rbody_kids
   have rbody_kids := rbody_kids'
   clear rbody_kids'
   clear hb3 hown2 hT2 d0 f0 d1 f1 d2 f2 d3 f3 d4 f4 d5 f5 d6 f6 d7 f7 d8 f8
   obtain ⟨⟨u0, d0⟩, f0⟩ := own_at hown3 (j * 9) (by omega)
   obtain ⟨⟨u1, d1⟩, f1⟩ := own_at hown3 (j * 9 + 1) (by omega)
   have d2 := own_mid hown3 HVa.out (i := 2) (by omega) rfl
   have f2 := hown3.frozenAt (j * 9 + 2)
   obtain ⟨⟨u3, d3⟩, f3⟩ := own_at hown3 (j * 9 + 3) (by omega)
   obtain ⟨⟨u4, d4⟩, f4⟩ := own_at hown3 (j * 9 + 4) (by omega)
   obtain ⟨⟨u5, d5⟩, f5⟩ := own_at hown3 (j * 9 + 5) (by omega)
   obtain ⟨⟨u6, d6⟩, f6⟩ := own_at hown3 (j * 9 + 6) (by omega)
   obtain ⟨⟨u7, d7⟩, f7⟩ := own_at hown3 (j * 9 + 7) (by omega)
   have d8 := own_mid hown3 HVa.out (i := 8) (by omega) rfl
   have f8 := hown3.frozenAt (j * 9 + 8)
   go_wp2_with fail
   refine (markCoreS_any c.body_kids _ Fbody_kids _ (q + 1 + 1 + sumOf strCnt c.slots + 1 + 1 + 1 + 1 + 1) _ (by push_cast; omega) (rbody_kids.fr ((Fr.refl [g] _).set_ (p := ⟨g, _, none⟩) (by simp) _) (fun b hb => by simpa using N7body_kids.out b hb)) N1body_kids.out (by omega) (by omega)).mono ?_; rintro e w4 ⟨rfl, rbody_kids', hb4⟩
   have hown4 := own_list (own_fr ((hown3.stored _ _).1) hb4 N2body_kids.out) (show _ = va ++ ([Value.string (mtext (q)), .int .i64 ((q : Int) + 1), .slice Aslots c.slots.length nslots, .int .i64 (((q + 1 + 1 + sumOf strCnt c.slots : Nat) : Int)), .int .i64 (((q + 1 + 1 + sumOf strCnt c.slots : Nat) : Int) + 1), .int .i64 (((q + 1 + 1 + sumOf strCnt c.slots : Nat) : Int) + 1 + 1), .int .i64 (((q + 1 + 1 + sumOf strCnt c.slots : Nat) : Int) + 1 + 1 + 1), .string (mtext (q + 1 + 1 + sumOf strCnt c.slots + 1 + 1 + 1 + 1)), .slice Abody_kids c.body_kids.length nbody_kids] ++ vb) by simp (disch := simp) only [set_mid2 HVa.out]; rfl)
   have hT4 := (hT3.set_ (p := ⟨g, _, none⟩) (by simp) _).trans (hb4.mono (by intro b hb; simp [hb]))
   clear rbody_kids
   have rbody_kids := rbody_kids'
   clear rbody_kids'
   have rslots' := (rslots.fr ((Fr.refl [g] _).set_ (p := ⟨g, _, none⟩) (by simp) _) (fun b hb => by simpa using N7slots.out b hb)).fr hb4 Xslots_body_kids.out
   clear rslots
   have rslots := rslots'
   clear rslots'
   clear hb4 hown3 hT3 d0 f0 d1 f1 d2 f2 d3 f3 d4 f4 d5 f5 d6 f6 d7 f7 d8 f8
   have HT := Lib.hid hT4
   have HW := Lib.hid hown4
   clear hT4 hown4
   have Rslots := Lib.hid rslots
   clear rslots
   have Rbody_kids := Lib.hid rbody_kids
   clear rbody_kids
   go_wp2_with fail
   go_roundw
   case rel =>
    refine ⟨j + 1, q + 1 + 1 + sumOf strCnt c.slots + 1 + 1 + 1 + 1 + 1 + sumOf CoreT.cnt c.body_kids, by omega, by go_num, by go_num, ?_, ?_, ?_⟩
    ·have := HQ.out; have := hq.out; have hc0 : c.cnt = 1 + 1 + sumOf strCnt c.slots + 1 + 1 + 1 + 1 + 1 + sumOf CoreT.cnt c.body_kids := rfl; show _ = _; omega
    ·rw [HN.out, ← hq.out]
     refine OwnV.put (ue := [.string (RouT.mark q c).name, .int .i64 (RouT.mark q c).params, .slice Aslots c.slots.length nslots, .int .i64 (RouT.mark q c).body_kind, .int .i64 (RouT.mark q c).body_op, .int .i64 (RouT.mark q c).body_number, .int .i64 (RouT.mark q c).body_line, .string (RouT.mark q c).body_text, .slice Abody_kids c.body_kids.length nbody_kids]) (own_list (HW.out) ?_) (HO.out.1.fr (HT.out) HX.out.1) (RouT.ownIn (Rslots.out.fr (Fr.refl [g] _) (fun b hb => by simpa using N7slots.out b hb)) (Rbody_kids.out.fr (Fr.refl [g] _) (fun b hb => by simpa using N7body_kids.out b hb))) (HO.out.2.fr (HT.out) HX.out.2.1)
     rfl
    ·exact hfr.trans ((HT.out).mono HX.out.2.2)
   case measure => simp [intOf]; omega
  ·obtain rfl : j = l.length := by omega
   rw [halfM_all] at ho
   rw [List.take_length] at hq
   go_wp2_with fail
   go_ret
   refine ⟨by rw [hq.out]; rfl, ?_, hfr⟩
   rw [markL_len]; exact ho
end Go.Proofs.YtjeomamdlmoghaaGreatDoor
end
section
namespace Go.Proofs.YtjeomamdlmoghaaGreatDoor
open Go.RowKit
theorem ProgT.ownOut {w : World} {c : ProgT} {F : List Nat} {vs : List Value} (h : OwnVs w c.dats F vs) : ∃ Aroutines nroutines Froutines Arecords nrecords Frecords Aglobals nglobals Fglobals, F = (Froutines ++ (Frecords ++ Fglobals)) ∧ vs = [Value.slice Aroutines c.routines.length nroutines, .slice Arecords c.records.length nrecords, .slice Aglobals c.globals.length nglobals, .int .i64 c.main] ∧ OwnV w (.row 9 c.routines.length (flat RouT.dats c.routines)) Froutines (.slice Aroutines c.routines.length nroutines) ∧ OwnV w (.row 3 c.records.length (flat RecT.dats c.records)) Frecords (.slice Arecords c.records.length nrecords) ∧ OwnV w (.row 1 c.globals.length (flat strDats c.globals)) Fglobals (.slice Aglobals c.globals.length nglobals) := by
 unfold ProgT.dats at h
 obtain ⟨G0, H0, v0, t0, rfl, rfl, a0, h⟩ := h.out
 obtain ⟨G1, H1, v1, t1, rfl, rfl, a1, h⟩ := h.out
 obtain ⟨G2, H2, v2, t2, rfl, rfl, a2, h⟩ := h.out
 obtain ⟨G3, H3, v3, t3, rfl, rfl, a3, h⟩ := h.out
 obtain ⟨rfl, rfl⟩ := h.outNil
 obtain ⟨A0, c0, rfl, -, -⟩ := LRep.shape (f := RouT.dats) (a0.rep (lo := 0) (hi := w.heap.size) fun g hg => ⟨Nat.zero_le _, a0.lt g hg⟩)
 obtain ⟨A1, c1, rfl, -, -⟩ := LRep.shape (f := RecT.dats) (a1.rep (lo := 0) (hi := w.heap.size) fun g hg => ⟨Nat.zero_le _, a1.lt g hg⟩)
 obtain ⟨A2, c2, rfl, -, -⟩ := LRep.shape (f := strDats) (a2.rep (lo := 0) (hi := w.heap.size) fun g hg => ⟨Nat.zero_le _, a2.lt g hg⟩)
 obtain ⟨rfl, rfl⟩ := a3.int_
 exact ⟨A0, c0, G0, A1, c1, G1, A2, c2, G2, by simp, rfl, a0, a1, a2⟩
theorem ProgT.ownIn {w : World} {c : ProgT} {vroutines : Value} {Froutines : List Nat} (hroutines : OwnV w (.row 9 c.routines.length (flat RouT.dats c.routines)) Froutines vroutines) {vrecords : Value} {Frecords : List Nat} (hrecords : OwnV w (.row 3 c.records.length (flat RecT.dats c.records)) Frecords vrecords) {vglobals : Value} {Fglobals : List Nat} (hglobals : OwnV w (.row 1 c.globals.length (flat strDats c.globals)) Fglobals vglobals) : OwnVs w c.dats (Froutines ++ (Frecords ++ Fglobals)) [vroutines, vrecords, vglobals, .int .i64 c.main] := by
 have H : OwnVs w [.row 9 c.routines.length (flat RouT.dats c.routines), .row 3 c.records.length (flat RecT.dats c.records), .row 1 c.globals.length (flat strDats c.globals), .int .i64 c.main] _ [vroutines, vrecords, vglobals, .int .i64 c.main] := (OwnVs.cons_ hroutines (OwnVs.cons_ hrecords (OwnVs.cons_ hglobals (OwnVs.cons_ .mkInt (OwnVs.nil_ (w := w))))))
 simpa [ProgT.dats] using H
def ProgT.cnt (c : ProgT) : Nat := sumOf RouT.cnt c.routines + sumOf RecT.cnt c.records + sumOf strCnt c.globals
def ProgT.mark (k : Nat) (c : ProgT) : ProgT := { routines := markL RouT.mark RouT.cnt (k) c.routines, records := markL RecT.mark RecT.cnt (k + sumOf RouT.cnt c.routines) c.records, globals := markL strMark strCnt (k + sumOf RouT.cnt c.routines + sumOf RecT.cnt c.records) c.globals, main := c.main }
theorem markProgram_any (c : ProgT) (vs : List Value) (F : List Nat) (x : Int) (k : Nat) (w : World) (hx : x = (k : Int)) (h : OwnVs w c.dats F vs) (hF : F.Nodup) (hk0 : 0 < k) (hk1 : k + c.cnt ≤ 1099511627776) :
 Calls Tryz.prog 9 #[.agg vs.toArray, .int .i64 x] w fun e w' => e = .returned (.int .i64 ((k + c.cnt : Nat) : Int)) ∧ OwnVs w' (c.mark k).dats F vs ∧ Fr F w w' := by
 subst hx
 unfold ProgT.cnt at hk1 ⊢
 obtain ⟨Aroutines, nroutines, Froutines, Arecords, nrecords, Frecords, Aglobals, nglobals, Fglobals, rfl, rfl, oroutines, orecords, oglobals⟩ := ProgT.ownOut h
 obtain ⟨p0, s0, m0, hF⟩ := nodup_dis hF
 obtain ⟨p1, s1, m1, hF⟩ := nodup_dis hF
 have m2 := hF
 clear hF h
 have a0 := Blk.new w 31 #[Value.slice Aroutines c.routines.length nroutines, .slice Arecords c.records.length nrecords, .slice Aglobals c.globals.length nglobals, .int .i64 c.main]
 have hg0 : Fr ((Froutines ++ (Frecords ++ Fglobals))) w (w.alloc (.cells #[Value.slice Aroutines c.routines.length nroutines, .slice Arecords c.records.length nrecords, .slice Aglobals c.globals.length nglobals, .int .i64 c.main] 31)) := Fr.of_below ((Below.refl _ _).alloc (Nat.le_refl _) _)
 have e0 : w.heap.size ∉ Froutines := fun hz => Nat.lt_irrefl _ (oroutines.lt _ hz)
 have e1 : w.heap.size ∉ Frecords := fun hz => Nat.lt_irrefl _ (orecords.lt _ hz)
 have e2 : w.heap.size ∉ Fglobals := fun hz => Nat.lt_irrefl _ (oglobals.lt _ hz)
 have q0 := oroutines.fr (F := []) (Fr.of_below ((Below.refl _ _).alloc (Nat.le_refl w.heap.size) (.cells #[Value.slice Aroutines c.routines.length nroutines, .slice Arecords c.records.length nrecords, .slice Aglobals c.globals.length nglobals, .int .i64 c.main] 31))) (fun b hb => by simp)
 have q1 := orecords.fr (F := []) (Fr.of_below ((Below.refl _ _).alloc (Nat.le_refl w.heap.size) (.cells #[Value.slice Aroutines c.routines.length nroutines, .slice Arecords c.records.length nrecords, .slice Aglobals c.globals.length nglobals, .int .i64 c.main] 31))) (fun b hb => by simp)
 have q2 := oglobals.fr (F := []) (Fr.of_below ((Below.refl _ _).alloc (Nat.le_refl w.heap.size) (.cells #[Value.slice Aroutines c.routines.length nroutines, .slice Arecords c.records.length nrecords, .slice Aglobals c.globals.length nglobals, .int .i64 c.main] 31))) (fun b hb => by simp)
 clear oroutines orecords oglobals
 have ca := a0.cell
 have la := a0.lt
 have HM := Lib.hid (And.intro (And.intro (And.intro p0 (p1)) (And.intro s0 (s1))) (And.intro m0 (And.intro m1 (m2))))
 clear p0 s0 p1 s1 m0 m1 m2
 go_enter Tryz.func9, Tryz.ntmps9
 go_wp2_with fail
 obtain ⟨⟨⟨p0, p1⟩, ⟨s0, s1⟩⟩, ⟨m0, m1, m2⟩⟩ := HM.out
 refine (markRoutineS_any c.routines _ Froutines _ (k) _ (by push_cast; omega) q0 m0 (by omega) (by omega)).mono ?_; rintro e w1 ⟨rfl, q0', hb⟩
 have a1 := a0.fr hb e0
 have hg1 := hg0.trans (hb.mono (by intro b hb; simp [hb]))
 have q1' := q1.fr hb (fun b hb => s0 b (by simp [hb]))
 have q2' := q2.fr hb (fun b hb => s0 b (by simp [hb]))
 clear ca la hb hg0 a0 q0 q1 q2
 have q0 := q0'
 have q1 := q1'
 have q2 := q2'
 clear q0' q1' q2' p0 s0 p1 s1 m0 m1 m2
 have ca := a1.cell
 have la := a1.lt
 go_wp2_with fail
 obtain ⟨⟨⟨p0, p1⟩, ⟨s0, s1⟩⟩, ⟨m0, m1, m2⟩⟩ := HM.out
 refine (markRecordTypeS_any c.records _ Frecords _ (k + sumOf RouT.cnt c.routines) _ (by push_cast; omega) q1 m1 (by omega) (by omega)).mono ?_; rintro e w2 ⟨rfl, q1', hb⟩
 have a2 := a1.fr hb e1
 have hg2 := hg1.trans (hb.mono (by intro b hb; simp [hb]))
 have q0' := q0.fr hb (fun b hb hb' => p0 b hb (by simp [hb']))
 have q2' := q2.fr hb (fun b hb => s1 b (by simp [hb]))
 clear ca la hb hg1 a1 q0 q1 q2
 have q0 := q0'
 have q1 := q1'
 have q2 := q2'
 clear q0' q1' q2' p0 s0 p1 s1 m0 m1 m2
 have ca := a2.cell
 have la := a2.lt
 go_wp2_with fail
 obtain ⟨⟨⟨p0, p1⟩, ⟨s0, s1⟩⟩, ⟨m0, m1, m2⟩⟩ := HM.out
 refine (markStrs_any c.globals _ Fglobals _ (k + sumOf RouT.cnt c.routines + sumOf RecT.cnt c.records) _ (by push_cast; omega) q2 m2 (by omega) (by omega)).mono ?_; rintro e w3 ⟨rfl, q2', hb⟩
 have a3 := a2.fr hb e2
 have hg3 := hg2.trans (hb.mono (by intro b hb; simp [hb]))
 have q0' := q0.fr hb (fun b hb hb' => p0 b hb (by simp [hb']))
 have q1' := q1.fr hb (fun b hb hb' => p1 b hb (by simp [hb']))
 clear ca la hb hg2 a2 q0 q1 q2
 have q0 := q0'
 have q1 := q1'
 have q2 := q2'
 clear q0' q1' q2' p0 s0 p1 s1 m0 m1 m2
 have ca := a3.cell
 have la := a3.lt
 go_wp2_with fail
 go_ret
 refine ⟨ret_int (by push_cast; omega), ProgT.ownIn (c := c.mark k) q0 q1 q2, hg3⟩
end Go.Proofs.YtjeomamdlmoghaaGreatDoor
end
section
namespace Go.Proofs.YtjeomamdlmoghaaGreatDoor
open Go.RowKit
section
variable {α : Type} {f : α → List Dat} {k : Nat} {w w' : World} {lo hi : Nat} {x v : Value} {c : α} {l : List α} {F : List Nat}
theorem LRep.fr (h : LRep w lo hi k f v l) (hf : Fr F w w') (hd : ∀ b ∈ F, b < lo ∨ hi ≤ b) (hhi : hi ≤ w.heap.size) : LRep w' lo hi k f v l :=
 h.keep fun p h1 h2 => World.cell?_of_block (hf.block p.block (by omega) fun hp => by have := hd _ hp; omega)
theorem SRep.fr (h : SRep w lo hi f x c) (hf : Fr F w w') (hd : ∀ b ∈ F, b < lo ∨ hi ≤ b) (hhi : hi ≤ w.heap.size) : SRep w' lo hi f x c :=
 h.keep fun p h1 h2 => World.cell?_of_block (hf.block p.block (by omega) fun hp => by have := hd _ hp; omega)
end
theorem sumOf_len {α : Type} {b : α → Nat} {n : Nat} (h : ∀ c, b c = n) : ∀ l : List α, sumOf b l = n * l.length
 | [] => rfl
 | c :: l => by simp only [sumOf, h, sumOf_len h l, List.length_cons, Nat.mul_add, Nat.mul_one]; omega
theorem sumOf_le {α : Type} {a b : α → Nat} {m n : Nat} (h : ∀ c, a c ≤ m + n * b c) : ∀ l : List α, sumOf a l ≤ m * l.length + n * sumOf b l
 | [] => by simp [sumOf]
 | c :: l => by
   have h1 := h c
   have h2 := sumOf_le h l
   simp only [sumOf, List.length_cons, Nat.mul_add, Nat.mul_one]
   omega
theorem RecT.cnt_le (c : RecT) : c.cnt ≤ 2 + 1 * c.bulk := by
 unfold RecT.cnt RecT.bulk
 rw [sumOf_len (b := strCnt) (n := 1) (fun _ => rfl)]
 omega
theorem strs_cnt (l : List ByteArray) : sumOf strCnt l = l.length := by rw [sumOf_len (b := strCnt) (n := 1) (fun _ => rfl), Nat.one_mul]
end Go.Proofs.YtjeomamdlmoghaaGreatDoor
end
section
namespace Go.Proofs.YtjeomamdlmoghaaGreatDoor
open Go.RowKit
theorem CoreT.cnt_nodes (c : CoreT) : c.cnt = 5 * c.nodes := by
 refine CoreT.ind (P := fun c => c.cnt = 5 * c.nodes) (fun c ih => ?_) c
 have h : ∀ l : List CoreT, (∀ x ∈ l, x.cnt = 5 * x.nodes) → sumOf CoreT.cnt l = 5 * nodesL l := by
  intro l
  induction l with
  | nil => intro _; rfl
  | cons y l ih =>
    intro h
    have h1 := h y List.mem_cons_self
    have h2 := ih fun x hx => h x (List.mem_cons_of_mem _ hx)
    simp only [sumOf, nodesL]; omega
 rw [c.cnt_g, c.nodes_eq, h c.kids ih]; omega
theorem RouT.cnt_eq (c : RouT) : c.cnt = 2 + c.slots.length + 5 * c.body.nodes := by
 have h := c.body.cnt_nodes
 rw [c.body.cnt_g] at h
 unfold RouT.cnt
 rw [strs_cnt]
 show 1 + 1 + c.slots.length + 1 + 1 + 1 + 1 + 1 + sumOf CoreT.cnt c.body.kids = _
 omega
theorem RouT.cnt_le (c : RouT) : c.cnt ≤ 7 + 5 * c.bulk := by
 have h1 := c.cnt_eq
 have h2 := nodes_le c.body
 unfold RouT.bulk
 omega
theorem ProgT.cnt_le (c : ProgT) : c.cnt ≤ 12 * c.bulk := by
 have h1 := sumOf_le (m := 7) (n := 5) RouT.cnt_le c.routines
 have h := sumOf_le (m := 2) (n := 1) RecT.cnt_le c.records
 unfold ProgT.cnt ProgT.bulk
 rw [strs_cnt]
 omega
end Go.Proofs.YtjeomamdlmoghaaGreatDoor
end
section
namespace Go.Proofs.YtjeomamdlmoghaaGreatDoor
open Go.RowKit
theorem heldStrs_any (l : List ByteArray) (v : Value) (x : Int) (k : Nat) (w : World) (lo hi : Nat) (hx : x = (k : Int)) (h : LRep w lo hi 1 strDats v (markL strMark strCnt k l)) (hhi : hi ≤ w.heap.size) (hk0 : 0 < k) (hk1 : k + sumOf strCnt l ≤ 1099511627776) :
 Calls Tryz.prog 31 #[v, .int .i64 x] w fun e w' => e = .returned (.int .i64 ((k + sumOf strCnt l : Nat) : Int)) ∧ Below w.heap.size w w' := by
 subst hx
 have hget : ∀ (j : Nat) (c : ByteArray), l[j]? = some c → (markL strMark strCnt k l)[j]? = some (strMark (k + sumOf strCnt (l.take j)) c) := fun j c hc => markL_get hc
 have hlen := markL_len (mk := strMark) (cnt := strCnt) l k
 obtain ⟨l', hl'⟩ : ∃ l', markL strMark strCnt k l = l' := ⟨_, rfl⟩
 rw [hl'] at h hget hlen
 clear hl'
 obtain ⟨A, cap, rfl, hc1, hc2⟩ := h.shape
 unfold maxLen at hc2
 have HG := Lib.hid hget
 have HR := Lib.hid h
 clear hget h
 rw [hlen] at hc1 ⊢
 clear hlen
 go_enter Tryz.func31, Tryz.ntmps31
 go_wp2_with fail
 go_loopw [1, 5] (fun m i wr => ∃ j q : Nat, j ≤ l.length ∧ i = .int .i64 j ∧ m = .int .i64 q ∧ Hid (q = k + sumOf strCnt (l.take j)) ∧ Below w.heap.size w wr) (fun _ i _ => l.length - (intOf i).toNat)
 case atStart => exact ⟨0, k, Nat.zero_le _, rfl, rfl, by simp [sumOf, Hid], Below.refl _ _⟩
 case round =>
  obtain ⟨j, q, hj, rfl, rfl, hq, hb⟩ := hrel
  by_cases hlt : j < l.length
  ·obtain ⟨c, hc⟩ : ∃ c, l[j]? = some c := ⟨_, List.getElem?_eq_getElem hlt⟩
   have hg := HG.out j c hc
   rw [← hq.out] at hg
   obtain ⟨g, off, rfl, hg1, hg2, q0⟩ := LRep.text (HR.out.below hb hhi) hg
   have hle := sumOf_take_le strCnt l (j + 1)
   rw [sumOf_snoc (b := strCnt) hc] at hle
   have q0' : 0 < q := by have := hq.out; omega
   have q1' : q + strCnt c ≤ 1099511627776 := by have := hq.out; omega
   have hc0 : strCnt c = 1 := rfl
   rw [hc0] at q1'
   have HQ := Lib.hid (sumOf_snoc (b := strCnt) hc)
   clear hle hc hg hc0
   have c0 : wr.cell? ⟨g, off + j, none⟩ = some (.string (mtext (q))) := q0
   clear q0
   have hz := hb.size
   have bt : Below wr.heap.size wr wr := Below.refl _ _
   go_wp2_with fail
   have lg : g < wr.drew.heap.size := Nat.lt_of_lt_of_le hg2 (Nat.le_trans hhi (hb.trans (bt.mono hz)).size)
   have hx0 : 0 < q := by omega
   have hx1 : q ≤ 1099511627776 := by omega
   go_region_held3 (fun w' => (w'.cell? ⟨g, off + j, none⟩ = some (.string (mtext (q)))) ∧ Below wr.heap.size wr w') (first | exact ⟨c0, bt⟩ | exact ⟨c0, bt.drew⟩ | exact ⟨(hbA.cell lg).trans c0, bt.drew.trans (hbA.mono bt.size)⟩)
    (first | (go_at_call 57; refine (markText_at _ (q) _ (by push_cast; omega) hx0 hx1).mono ?_; rintro e w1 ⟨rfl, hbA⟩))
   rename_i hheld
   clear bt lg hx0 hx1 c0
   obtain ⟨c0, bt⟩ := hheld
   go_wp2_with fail
   go_roundw
   case rel =>
    refine ⟨j + 1, q + 1, by omega, by go_num, by go_num, ?_, hb.trans (bt.mono hz)⟩
    have := HQ.out; have := hq.out; have hc0 : strCnt c = 1 := rfl; show _ = _; omega
   case measure => simp [intOf]; omega
  ·obtain rfl : j = l.length := by omega
   rw [List.take_length] at hq
   go_wp2_with fail
   go_ret
   exact ⟨by rw [hq.out]; rfl, hb⟩
end Go.Proofs.YtjeomamdlmoghaaGreatDoor
end
section
namespace Go.Proofs.YtjeomamdlmoghaaGreatDoor
open Go.RowKit
theorem heldRecordTypeS_any (l : List RecT) (v : Value) (x : Int) (k : Nat) (w : World) (lo hi : Nat) (hx : x = (k : Int)) (h : LRep w lo hi 3 RecT.dats v (markL RecT.mark RecT.cnt k l)) (hhi : hi ≤ w.heap.size) (hk0 : 0 < k) (hk1 : k + sumOf RecT.cnt l ≤ 1099511627776) :
 Calls Tryz.prog 30 #[v, .int .i64 x] w fun e w' => e = .returned (.int .i64 ((k + sumOf RecT.cnt l : Nat) : Int)) ∧ Below w.heap.size w w' := by
 subst hx
 have hget : ∀ (j : Nat) (c : RecT), l[j]? = some c → (markL RecT.mark RecT.cnt k l)[j]? = some (RecT.mark (k + sumOf RecT.cnt (l.take j)) c) := fun j c hc => markL_get hc
 have hlen := markL_len (mk := RecT.mark) (cnt := RecT.cnt) l k
 obtain ⟨l', hl'⟩ : ∃ l', markL RecT.mark RecT.cnt k l = l' := ⟨_, rfl⟩
 rw [hl'] at h hget hlen
 clear hl'
 obtain ⟨A, cap, rfl, hc1, hc2⟩ := h.shape
 unfold maxLen at hc2
 have HG := Lib.hid hget
 have HR := Lib.hid h
 clear hget h
 rw [hlen] at hc1 ⊢
 clear hlen
 go_enter Tryz.func30, Tryz.ntmps30
 go_wp2_with fail
 go_loopw [1, 5] (fun m i wr => ∃ j q : Nat, j ≤ l.length ∧ i = .int .i64 j ∧ m = .int .i64 q ∧ Hid (q = k + sumOf RecT.cnt (l.take j)) ∧ Below w.heap.size w wr) (fun _ i _ => l.length - (intOf i).toNat)
 case atStart => exact ⟨0, k, Nat.zero_le _, rfl, rfl, by simp [sumOf, Hid], Below.refl _ _⟩
 case round =>
  obtain ⟨j, q, hj, rfl, rfl, hq, hb⟩ := hrel
  by_cases hlt : j < l.length
  ·obtain ⟨c, hc⟩ : ∃ c, l[j]? = some c := ⟨_, List.getElem?_eq_getElem hlt⟩
   have hg := HG.out j c hc
   rw [← hq.out] at hg
   obtain ⟨g, off, Afields, nfields, rfl, hg1, hg2, hmem, hrep, q0, q1, q2⟩ := RecT.at_ (HR.out.below hb hhi) hg
   have hr := RecT.rows hrep
   have rfields := hr
   clear hr
   have hle := sumOf_take_le RecT.cnt l (j + 1)
   rw [sumOf_snoc (b := RecT.cnt) hc] at hle
   have q0' : 0 < q := by have := hq.out; omega
   have q1' : q + c.cnt ≤ 1099511627776 := by have := hq.out; omega
   have hc0 : c.cnt = 1 + sumOf strCnt c.fields + 1 := rfl
   rw [hc0] at q1'
   have HQ := Lib.hid (sumOf_snoc (b := RecT.cnt) hc)
   clear hle hc hg hmem hrep hc0
   have c0 : wr.cell? ⟨g, off + j * 3, none⟩ = some (.string (mtext (q))) := q0
   have c1 : wr.cell? ⟨g, off + j * 3 + 1, none⟩ = some (.slice Afields (RecT.mark q c).fields.length nfields) := q1
   have c2 : wr.cell? ⟨g, off + j * 3 + 2, none⟩ = some (.int .i64 (((q + 1 + sumOf strCnt c.fields : Nat) : Int))) := q2
   clear q0 q1 q2
   have hz := hb.size
   have bt : Below wr.heap.size wr wr := Below.refl _ _
   go_wp2_with fail
   have lg : g < wr.drew.heap.size := Nat.lt_of_lt_of_le hg2 (Nat.le_trans hhi (hb.trans (bt.mono hz)).size)
   have hx0 : 0 < q := by omega
   have hx1 : q ≤ 1099511627776 := by omega
   go_region_held3 (fun w' => (w'.cell? ⟨g, off + j * 3, none⟩ = some (.string (mtext (q))) ∧ w'.cell? ⟨g, off + j * 3 + 1, none⟩ = some (.slice Afields (RecT.mark q c).fields.length nfields) ∧ w'.cell? ⟨g, off + j * 3 + 2, none⟩ = some (.int .i64 (((q + 1 + sumOf strCnt c.fields : Nat) : Int)))) ∧ Below wr.heap.size wr w') (first | exact ⟨⟨c0, c1, c2⟩, bt⟩ | exact ⟨⟨c0, c1, c2⟩, bt.drew⟩ | exact ⟨⟨(hbA.cell lg).trans c0, (hbA.cell lg).trans c1, (hbA.cell lg).trans c2⟩, bt.drew.trans (hbA.mono bt.size)⟩)
    (first | (go_at_call 57; refine (markText_at _ (q) _ (by push_cast; omega) hx0 hx1).mono ?_; rintro e w1 ⟨rfl, hbA⟩))
   rename_i hheld
   clear bt lg hx0 hx1 c0 c1 c2
   obtain ⟨⟨c0, c1, c2⟩, bt⟩ := hheld
   go_wp2_with fail
   have bw2 := hb.trans (bt.mono hz)
   have lg : g < w1.heap.size := Nat.lt_of_lt_of_le hg2 (Nat.le_trans hhi bw2.size)
   refine (heldStrs_any c.fields _ _ (q + 1) _ lo hi (by push_cast; omega) (LRep.below rfields bt (Nat.le_trans hhi hz)) (Nat.le_trans hhi bw2.size) (by omega) (by omega)).mono ?_; rintro e w2 ⟨rfl, hbA⟩
   replace c0 := (hbA.cell lg).trans c0
   replace c1 := (hbA.cell lg).trans c1
   replace c2 := (hbA.cell lg).trans c2
   replace bt := bt.trans (hbA.mono bt.size)
   clear hbA lg
   go_wp2_with fail
   go_roundw
   case rel =>
    refine ⟨j + 1, q + 1 + sumOf strCnt c.fields + 1, by omega, by go_num, by go_num, ?_, hb.trans (bt.mono hz)⟩
    have := HQ.out; have := hq.out; have hc0 : c.cnt = 1 + sumOf strCnt c.fields + 1 := rfl; show _ = _; omega
   case measure => simp [intOf]; omega
  ·obtain rfl : j = l.length := by omega
   rw [List.take_length] at hq
   go_wp2_with fail
   go_ret
   exact ⟨by rw [hq.out]; rfl, hb⟩
end Go.Proofs.YtjeomamdlmoghaaGreatDoor
end
section
namespace Go.Proofs.YtjeomamdlmoghaaGreatDoor
open Go.RowKit
def HdOk (l : List CoreT) : Prop := ∀ (v : Value) (x : Int) (k : Nat) (w : World) (lo hi : Nat) (hx : x = (k : Int)) (h : LRep w lo hi 6 CoreT.dats v (markL CoreT.mark CoreT.cnt k l)) (hhi : hi ≤ w.heap.size) (hk0 : 0 < k) (hk1 : k + sumOf CoreT.cnt l ≤ 1099511627776),
 Calls Tryz.prog 59 #[v, .int .i64 x] w fun e w' => e = .returned (.int .i64 ((k + sumOf CoreT.cnt l : Nat) : Int)) ∧ Below w.heap.size w w'
theorem heldCoreS_of (l : List CoreT) (H : ∀ c ∈ l, HdOk c.kids) : HdOk l := by
 intro v x k w lo hi hx h hhi hk0 hk1
 have HH := Lib.hid H
 clear H
 subst hx
 have hget : ∀ (j : Nat) (c : CoreT), l[j]? = some c → (markL CoreT.mark CoreT.cnt k l)[j]? = some (CoreT.mark (k + sumOf CoreT.cnt (l.take j)) c) := fun j c hc => markL_get hc
 have hlen := markL_len (mk := CoreT.mark) (cnt := CoreT.cnt) l k
 obtain ⟨l', hl'⟩ : ∃ l', markL CoreT.mark CoreT.cnt k l = l' := ⟨_, rfl⟩
 rw [hl'] at h hget hlen
 clear hl'
 obtain ⟨A, cap, rfl, hc1, hc2⟩ := h.shape
 unfold maxLen at hc2
 have HG := Lib.hid hget
 have HR := Lib.hid h
 clear hget h
 rw [hlen] at hc1 ⊢
 clear hlen
 go_enter Tryz.func59, Tryz.ntmps59
 go_wp2_with fail
 go_loopw [1, 5] (fun m i wr => ∃ j q : Nat, j ≤ l.length ∧ i = .int .i64 j ∧ m = .int .i64 q ∧ Hid (q = k + sumOf CoreT.cnt (l.take j)) ∧ Below w.heap.size w wr) (fun _ i _ => l.length - (intOf i).toNat)
 case atStart => exact ⟨0, k, Nat.zero_le _, rfl, rfl, by simp [sumOf, Hid], Below.refl _ _⟩
 case round =>
  obtain ⟨j, q, hj, rfl, rfl, hq, hb⟩ := hrel
  by_cases hlt : j < l.length
  ·obtain ⟨c, hc⟩ : ∃ c, l[j]? = some c := ⟨_, List.getElem?_eq_getElem hlt⟩
   have hih := HH.out c (List.mem_of_getElem? hc)
   have hg := HG.out j c hc
   rw [← hq.out, CoreT.mark_g] at hg
   obtain ⟨g, off, Akids, nkids, rfl, hg1, hg2, hmem, hrep, q0, q1, q2, q3, q4, q5⟩ := CoreT.at_ (HR.out.below hb hhi) hg
   have hr := CoreT.rows hrep
   have rkids := hr
   clear hr
   have hle := sumOf_take_le CoreT.cnt l (j + 1)
   rw [sumOf_snoc (b := CoreT.cnt) hc] at hle
   have q0' : 0 < q := by have := hq.out; omega
   have q1' : q + c.cnt ≤ 1099511627776 := by have := hq.out; omega
   have hc0 : c.cnt = 1 + 1 + 1 + 1 + 1 + sumOf CoreT.cnt c.kids := CoreT.cnt_g c
   rw [hc0] at q1'
   have HQ := Lib.hid (sumOf_snoc (b := CoreT.cnt) hc)
   clear hle hc hg hmem hrep hc0
   have c0 : wr.cell? ⟨g, off + j * 6, none⟩ = some (.int .i64 ((q : Int))) := q0
   have c1 : wr.cell? ⟨g, off + j * 6 + 1, none⟩ = some (.int .i64 ((q : Int) + 1)) := q1
   have c2 : wr.cell? ⟨g, off + j * 6 + 2, none⟩ = some (.int .i64 ((q : Int) + 1 + 1)) := q2
   have c3 : wr.cell? ⟨g, off + j * 6 + 3, none⟩ = some (.int .i64 ((q : Int) + 1 + 1 + 1)) := q3
   have c4 : wr.cell? ⟨g, off + j * 6 + 4, none⟩ = some (.string (mtext (q + 1 + 1 + 1 + 1))) := q4
   have c5 : wr.cell? ⟨g, off + j * 6 + 5, none⟩ = some (.slice Akids (CoreT.markF q c).kids.length nkids) := q5
   clear q0 q1 q2 q3 q4 q5
   have hz := hb.size
   have bt : Below wr.heap.size wr wr := Below.refl _ _
   go_wp2_with fail
   have lg : g < wr.drew.heap.size := Nat.lt_of_lt_of_le hg2 (Nat.le_trans hhi (hb.trans (bt.mono hz)).size)
   have hx0 : 0 < q + 1 + 1 + 1 + 1 := by omega
   have hx1 : q + 1 + 1 + 1 + 1 ≤ 1099511627776 := by omega
   go_region_held3 (fun w' => (w'.cell? ⟨g, off + j * 6, none⟩ = some (.int .i64 ((q : Int))) ∧ w'.cell? ⟨g, off + j * 6 + 1, none⟩ = some (.int .i64 ((q : Int) + 1)) ∧ w'.cell? ⟨g, off + j * 6 + 2, none⟩ = some (.int .i64 ((q : Int) + 1 + 1)) ∧ w'.cell? ⟨g, off + j * 6 + 3, none⟩ = some (.int .i64 ((q : Int) + 1 + 1 + 1)) ∧ w'.cell? ⟨g, off + j * 6 + 4, none⟩ = some (.string (mtext (q + 1 + 1 + 1 + 1))) ∧ w'.cell? ⟨g, off + j * 6 + 5, none⟩ = some (.slice Akids (CoreT.markF q c).kids.length nkids)) ∧ Below wr.heap.size wr w') (first | exact ⟨⟨c0, c1, c2, c3, c4, c5⟩, bt⟩ | exact ⟨⟨c0, c1, c2, c3, c4, c5⟩, bt.drew⟩ | exact ⟨⟨(hbA.cell lg).trans c0, (hbA.cell lg).trans c1, (hbA.cell lg).trans c2, (hbA.cell lg).trans c3, (hbA.cell lg).trans c4, (hbA.cell lg).trans c5⟩, bt.drew.trans (hbA.mono bt.size)⟩)
    (first | (go_at_call 57; refine (markText_at _ (q + 1 + 1 + 1 + 1) _ (by push_cast; omega) hx0 hx1).mono ?_; rintro e w1 ⟨rfl, hbA⟩))
   rename_i hheld
   clear bt lg hx0 hx1 c0 c1 c2 c3 c4 c5
   obtain ⟨⟨c0, c1, c2, c3, c4, c5⟩, bt⟩ := hheld
   go_wp2_with fail
   have bw2 := hb.trans (bt.mono hz)
   have lg : g < w1.heap.size := Nat.lt_of_lt_of_le hg2 (Nat.le_trans hhi bw2.size)
   refine (hih _ _ (q + 1 + 1 + 1 + 1 + 1) _ lo hi (by push_cast; omega) (LRep.below rkids bt (Nat.le_trans hhi hz)) (Nat.le_trans hhi bw2.size) (by omega) (by omega)).mono ?_; rintro e w2 ⟨rfl, hbA⟩
   replace c0 := (hbA.cell lg).trans c0
   replace c1 := (hbA.cell lg).trans c1
   replace c2 := (hbA.cell lg).trans c2
   replace c3 := (hbA.cell lg).trans c3
   replace c4 := (hbA.cell lg).trans c4
   replace c5 := (hbA.cell lg).trans c5
   replace bt := bt.trans (hbA.mono bt.size)
   clear hbA lg
   go_wp2_with fail
   go_roundw
   case rel =>
    refine ⟨j + 1, q + 1 + 1 + 1 + 1 + 1 + sumOf CoreT.cnt c.kids, by omega, by go_num, by go_num, ?_, hb.trans (bt.mono hz)⟩
    have := HQ.out; have := hq.out; have hc0 : c.cnt = 1 + 1 + 1 + 1 + 1 + sumOf CoreT.cnt c.kids := CoreT.cnt_g c; show _ = _; omega
   case measure => simp [intOf]; omega
  ·obtain rfl : j = l.length := by omega
   rw [List.take_length] at hq
   go_wp2_with fail
   go_ret
   exact ⟨by rw [hq.out]; rfl, hb⟩
theorem heldCoreS_any (l : List CoreT) : HdOk l := heldCoreS_of l fun c _ => CoreT.ind (P := fun c => HdOk c.kids) (fun c h => heldCoreS_of c.kids h) c
end Go.Proofs.YtjeomamdlmoghaaGreatDoor
end
section
namespace Go.Proofs.YtjeomamdlmoghaaGreatDoor
open Go.RowKit
theorem heldRoutineS_any (l : List RouT) (v : Value) (x : Int) (k : Nat) (w : World) (lo hi : Nat) (hx : x = (k : Int)) (h : LRep w lo hi 9 RouT.dats v (markL RouT.mark RouT.cnt k l)) (hhi : hi ≤ w.heap.size) (hk0 : 0 < k) (hk1 : k + sumOf RouT.cnt l ≤ 1099511627776) :
 Calls Tryz.prog 29 #[v, .int .i64 x] w fun e w' => e = .returned (.int .i64 ((k + sumOf RouT.cnt l : Nat) : Int)) ∧ Below w.heap.size w w' := by
 subst hx
 have hget : ∀ (j : Nat) (c : RouT), l[j]? = some c → (markL RouT.mark RouT.cnt k l)[j]? = some (RouT.mark (k + sumOf RouT.cnt (l.take j)) c) := fun j c hc => markL_get hc
 have hlen := markL_len (mk := RouT.mark) (cnt := RouT.cnt) l k
 obtain ⟨l', hl'⟩ : ∃ l', markL RouT.mark RouT.cnt k l = l' := ⟨_, rfl⟩
 rw [hl'] at h hget hlen
 clear hl'
 obtain ⟨A, cap, rfl, hc1, hc2⟩ := h.shape
 unfold maxLen at hc2
 have HG := Lib.hid hget
 have HR := Lib.hid h
 clear hget h
 rw [hlen] at hc1 ⊢
 clear hlen
 go_enter Tryz.func29, Tryz.ntmps29
 go_wp2_with fail
 go_loopw [1, 5] (fun m i wr => ∃ j q : Nat, j ≤ l.length ∧ i = .int .i64 j ∧ m = .int .i64 q ∧ Hid (q = k + sumOf RouT.cnt (l.take j)) ∧ Below w.heap.size w wr) (fun _ i _ => l.length - (intOf i).toNat)
 case atStart => exact ⟨0, k, Nat.zero_le _, rfl, rfl, by simp [sumOf, Hid], Below.refl _ _⟩
 case round =>
  obtain ⟨j, q, hj, rfl, rfl, hq, hb⟩ := hrel
  by_cases hlt : j < l.length
  ·obtain ⟨c, hc⟩ : ∃ c, l[j]? = some c := ⟨_, List.getElem?_eq_getElem hlt⟩
   have hg := HG.out j c hc
   rw [← hq.out] at hg
   obtain ⟨g, off, Aslots, nslots, Abody_kids, nbody_kids, rfl, hg1, hg2, hmem, hrep, q0, q1, q2, q3, q4, q5, q6, q7, q8⟩ := RouT.at_ (HR.out.below hb hhi) hg
   have hr := RouT.rows hrep
   obtain ⟨rslots, rbody_kids⟩ := hr
   have hle := sumOf_take_le RouT.cnt l (j + 1)
   rw [sumOf_snoc (b := RouT.cnt) hc] at hle
   have q0' : 0 < q := by have := hq.out; omega
   have q1' : q + c.cnt ≤ 1099511627776 := by have := hq.out; omega
   have hc0 : c.cnt = 1 + 1 + sumOf strCnt c.slots + 1 + 1 + 1 + 1 + 1 + sumOf CoreT.cnt c.body_kids := rfl
   rw [hc0] at q1'
   have HQ := Lib.hid (sumOf_snoc (b := RouT.cnt) hc)
   clear hle hc hg hmem hrep hc0
   have c0 : wr.cell? ⟨g, off + j * 9, none⟩ = some (.string (mtext (q))) := q0
   have c1 : wr.cell? ⟨g, off + j * 9 + 1, none⟩ = some (.int .i64 ((q : Int) + 1)) := q1
   have c2 : wr.cell? ⟨g, off + j * 9 + 2, none⟩ = some (.slice Aslots (RouT.mark q c).slots.length nslots) := q2
   have c3 : wr.cell? ⟨g, off + j * 9 + 3, none⟩ = some (.int .i64 (((q + 1 + 1 + sumOf strCnt c.slots : Nat) : Int))) := q3
   have c4 : wr.cell? ⟨g, off + j * 9 + 4, none⟩ = some (.int .i64 (((q + 1 + 1 + sumOf strCnt c.slots : Nat) : Int) + 1)) := q4
   have c5 : wr.cell? ⟨g, off + j * 9 + 5, none⟩ = some (.int .i64 (((q + 1 + 1 + sumOf strCnt c.slots : Nat) : Int) + 1 + 1)) := q5
   have c6 : wr.cell? ⟨g, off + j * 9 + 6, none⟩ = some (.int .i64 (((q + 1 + 1 + sumOf strCnt c.slots : Nat) : Int) + 1 + 1 + 1)) := q6
   have c7 : wr.cell? ⟨g, off + j * 9 + 7, none⟩ = some (.string (mtext (q + 1 + 1 + sumOf strCnt c.slots + 1 + 1 + 1 + 1))) := q7
   have c8 : wr.cell? ⟨g, off + j * 9 + 8, none⟩ = some (.slice Abody_kids (RouT.mark q c).body_kids.length nbody_kids) := q8
   clear q0 q1 q2 q3 q4 q5 q6 q7 q8
   have hz := hb.size
   have bt : Below wr.heap.size wr wr := Below.refl _ _
   go_wp2_with fail
   have lg : g < wr.drew.heap.size := Nat.lt_of_lt_of_le hg2 (Nat.le_trans hhi (hb.trans (bt.mono hz)).size)
   have hx0 : 0 < q := by omega
   have hx1 : q ≤ 1099511627776 := by omega
   go_region_held3 (fun w' => (w'.cell? ⟨g, off + j * 9, none⟩ = some (.string (mtext (q))) ∧ w'.cell? ⟨g, off + j * 9 + 1, none⟩ = some (.int .i64 ((q : Int) + 1)) ∧ w'.cell? ⟨g, off + j * 9 + 2, none⟩ = some (.slice Aslots (RouT.mark q c).slots.length nslots) ∧ w'.cell? ⟨g, off + j * 9 + 3, none⟩ = some (.int .i64 (((q + 1 + 1 + sumOf strCnt c.slots : Nat) : Int))) ∧ w'.cell? ⟨g, off + j * 9 + 4, none⟩ = some (.int .i64 (((q + 1 + 1 + sumOf strCnt c.slots : Nat) : Int) + 1)) ∧ w'.cell? ⟨g, off + j * 9 + 5, none⟩ = some (.int .i64 (((q + 1 + 1 + sumOf strCnt c.slots : Nat) : Int) + 1 + 1)) ∧ w'.cell? ⟨g, off + j * 9 + 6, none⟩ = some (.int .i64 (((q + 1 + 1 + sumOf strCnt c.slots : Nat) : Int) + 1 + 1 + 1)) ∧ w'.cell? ⟨g, off + j * 9 + 7, none⟩ = some (.string (mtext (q + 1 + 1 + sumOf strCnt c.slots + 1 + 1 + 1 + 1))) ∧ w'.cell? ⟨g, off + j * 9 + 8, none⟩ = some (.slice Abody_kids (RouT.mark q c).body_kids.length nbody_kids)) ∧ Below wr.heap.size wr w') (first | exact ⟨⟨c0, c1, c2, c3, c4, c5, c6, c7, c8⟩, bt⟩ | exact ⟨⟨c0, c1, c2, c3, c4, c5, c6, c7, c8⟩, bt.drew⟩ | exact ⟨⟨(hbA.cell lg).trans c0, (hbA.cell lg).trans c1, (hbA.cell lg).trans c2, (hbA.cell lg).trans c3, (hbA.cell lg).trans c4, (hbA.cell lg).trans c5, (hbA.cell lg).trans c6, (hbA.cell lg).trans c7, (hbA.cell lg).trans c8⟩, bt.drew.trans (hbA.mono bt.size)⟩)
    (first | (go_at_call 57; refine (markText_at _ (q) _ (by push_cast; omega) hx0 hx1).mono ?_; rintro e w1 ⟨rfl, hbA⟩))
   rename_i hheld
   clear bt lg hx0 hx1 c0 c1 c2 c3 c4 c5 c6 c7 c8
   obtain ⟨⟨c0, c1, c2, c3, c4, c5, c6, c7, c8⟩, bt⟩ := hheld
   go_wp2_with fail
   have bw2 := hb.trans (bt.mono hz)
   have lg : g < w1.heap.size := Nat.lt_of_lt_of_le hg2 (Nat.le_trans hhi bw2.size)
   refine (heldStrs_any c.slots _ _ (q + 1 + 1) _ lo hi (by push_cast; omega) (LRep.below rslots bt (Nat.le_trans hhi hz)) (Nat.le_trans hhi bw2.size) (by omega) (by omega)).mono ?_; rintro e w2 ⟨rfl, hbA⟩
   replace c0 := (hbA.cell lg).trans c0
   replace c1 := (hbA.cell lg).trans c1
   replace c2 := (hbA.cell lg).trans c2
   replace c3 := (hbA.cell lg).trans c3
   replace c4 := (hbA.cell lg).trans c4
   replace c5 := (hbA.cell lg).trans c5
   replace c6 := (hbA.cell lg).trans c6
   replace c7 := (hbA.cell lg).trans c7
   replace c8 := (hbA.cell lg).trans c8
   replace bt := bt.trans (hbA.mono bt.size)
   clear hbA lg
   go_wp2_with fail
   have lg : g < w2.drew.heap.size := Nat.lt_of_lt_of_le hg2 (Nat.le_trans hhi (hb.trans (bt.mono hz)).size)
   have hx0 : 0 < q + 1 + 1 + sumOf strCnt c.slots + 1 + 1 + 1 + 1 := by omega
   have hx1 : q + 1 + 1 + sumOf strCnt c.slots + 1 + 1 + 1 + 1 ≤ 1099511627776 := by omega
   go_region_held3 (fun w' => (w'.cell? ⟨g, off + j * 9, none⟩ = some (.string (mtext (q))) ∧ w'.cell? ⟨g, off + j * 9 + 1, none⟩ = some (.int .i64 ((q : Int) + 1)) ∧ w'.cell? ⟨g, off + j * 9 + 2, none⟩ = some (.slice Aslots (RouT.mark q c).slots.length nslots) ∧ w'.cell? ⟨g, off + j * 9 + 3, none⟩ = some (.int .i64 (((q + 1 + 1 + sumOf strCnt c.slots : Nat) : Int))) ∧ w'.cell? ⟨g, off + j * 9 + 4, none⟩ = some (.int .i64 (((q + 1 + 1 + sumOf strCnt c.slots : Nat) : Int) + 1)) ∧ w'.cell? ⟨g, off + j * 9 + 5, none⟩ = some (.int .i64 (((q + 1 + 1 + sumOf strCnt c.slots : Nat) : Int) + 1 + 1)) ∧ w'.cell? ⟨g, off + j * 9 + 6, none⟩ = some (.int .i64 (((q + 1 + 1 + sumOf strCnt c.slots : Nat) : Int) + 1 + 1 + 1)) ∧ w'.cell? ⟨g, off + j * 9 + 7, none⟩ = some (.string (mtext (q + 1 + 1 + sumOf strCnt c.slots + 1 + 1 + 1 + 1))) ∧ w'.cell? ⟨g, off + j * 9 + 8, none⟩ = some (.slice Abody_kids (RouT.mark q c).body_kids.length nbody_kids)) ∧ Below wr.heap.size wr w') (first | exact ⟨⟨c0, c1, c2, c3, c4, c5, c6, c7, c8⟩, bt⟩ | exact ⟨⟨c0, c1, c2, c3, c4, c5, c6, c7, c8⟩, bt.drew⟩ | exact ⟨⟨(hbA.cell lg).trans c0, (hbA.cell lg).trans c1, (hbA.cell lg).trans c2, (hbA.cell lg).trans c3, (hbA.cell lg).trans c4, (hbA.cell lg).trans c5, (hbA.cell lg).trans c6, (hbA.cell lg).trans c7, (hbA.cell lg).trans c8⟩, bt.drew.trans (hbA.mono bt.size)⟩)
    (first | (go_at_call 57; refine (markText_at _ (q + 1 + 1 + sumOf strCnt c.slots + 1 + 1 + 1 + 1) _ (by push_cast; omega) hx0 hx1).mono ?_; rintro e w3 ⟨rfl, hbA⟩))
   rename_i hheld
   clear bt lg hx0 hx1 c0 c1 c2 c3 c4 c5 c6 c7 c8
   obtain ⟨⟨c0, c1, c2, c3, c4, c5, c6, c7, c8⟩, bt⟩ := hheld
   go_wp2_with fail
   have bw4 := hb.trans (bt.mono hz)
   have lg : g < w3.heap.size := Nat.lt_of_lt_of_le hg2 (Nat.le_trans hhi bw4.size)
   refine (heldCoreS_any c.body_kids _ _ (q + 1 + 1 + sumOf strCnt c.slots + 1 + 1 + 1 + 1 + 1) _ lo hi (by push_cast; omega) (LRep.below rbody_kids bt (Nat.le_trans hhi hz)) (Nat.le_trans hhi bw4.size) (by omega) (by omega)).mono ?_; rintro e w4 ⟨rfl, hbA⟩
   replace c0 := (hbA.cell lg).trans c0
   replace c1 := (hbA.cell lg).trans c1
   replace c2 := (hbA.cell lg).trans c2
   replace c3 := (hbA.cell lg).trans c3
   replace c4 := (hbA.cell lg).trans c4
   replace c5 := (hbA.cell lg).trans c5
   replace c6 := (hbA.cell lg).trans c6
   replace c7 := (hbA.cell lg).trans c7
   replace c8 := (hbA.cell lg).trans c8
   replace bt := bt.trans (hbA.mono bt.size)
   clear hbA lg
   go_wp2_with fail
   go_roundw
   case rel =>
    refine ⟨j + 1, q + 1 + 1 + sumOf strCnt c.slots + 1 + 1 + 1 + 1 + 1 + sumOf CoreT.cnt c.body_kids, by omega, by go_num, by go_num, ?_, hb.trans (bt.mono hz)⟩
    have := HQ.out; have := hq.out; have hc0 : c.cnt = 1 + 1 + sumOf strCnt c.slots + 1 + 1 + 1 + 1 + 1 + sumOf CoreT.cnt c.body_kids := rfl; show _ = _; omega
   case measure => simp [intOf]; omega
  ·obtain rfl : j = l.length := by omega
   rw [List.take_length] at hq
   go_wp2_with fail
   go_ret
   exact ⟨by rw [hq.out]; rfl, hb⟩
end Go.Proofs.YtjeomamdlmoghaaGreatDoor
end
section
namespace Go.Proofs.YtjeomamdlmoghaaGreatDoor
open Go.RowKit
theorem heldProgram_any (c : ProgT) (v : Value) (x : Int) (k : Nat) (w : World) (lo hi : Nat) (hx : x = (k : Int)) (h : SRep w lo hi ProgT.dats v (c.mark k)) (hhi : hi ≤ w.heap.size) (hk0 : 0 < k) (hk1 : k + c.cnt ≤ 1099511627776) :
 Calls Tryz.prog 10 #[v, .int .i64 x] w fun e w' => e = .returned (.int .i64 ((k + c.cnt : Nat) : Int)) ∧ Below w.heap.size w w' := by
 subst hx
 unfold ProgT.cnt at hk1 ⊢
 obtain ⟨Aroutines, nroutines, Arecords, nrecords, Aglobals, nglobals, rfl, hroutines, uroutines, mroutines, hrecords, urecords, mrecords, hglobals, uglobals, mglobals⟩ := ProgT.form h
 unfold maxLen at mroutines
 unfold maxLen at mrecords
 unfold maxLen at mglobals
 have hw0 : Below w.heap.size w (w.alloc (.cells #[Value.slice Aroutines (c.mark k).routines.length nroutines, .slice Arecords (c.mark k).records.length nrecords, .slice Aglobals (c.mark k).globals.length nglobals, .int .i64 (c.mark k).main] 31)) := (Below.refl _ _).alloc (Nat.le_refl _) _
 have a0 := Blk.new w 31 #[Value.slice Aroutines (c.mark k).routines.length nroutines, .slice Arecords (c.mark k).records.length nrecords, .slice Aglobals (c.mark k).globals.length nglobals, .int .i64 (c.mark k).main]
 have ca := a0.cell
 have la := a0.lt
 go_enter Tryz.func10, Tryz.ntmps10
 go_wp2_with fail
 refine (heldRoutineS_any c.routines _ _ (k) _ lo hi (by push_cast; omega) (hroutines.below hw0 hhi) (Nat.le_trans hhi hw0.size) (by omega) (by omega)).mono ?_; rintro e w1 ⟨rfl, hb⟩
 have a1 := a0.later hb
 have hw1 := hw0.trans (hb.mono hw0.size)
 clear ca la hb a0
 have ca := a1.cell
 have la := a1.lt
 go_wp2_with fail
 refine (heldRecordTypeS_any c.records _ _ (k + sumOf RouT.cnt c.routines) _ lo hi (by push_cast; omega) (hrecords.below hw1 hhi) (Nat.le_trans hhi hw1.size) (by omega) (by omega)).mono ?_; rintro e w2 ⟨rfl, hb⟩
 have a2 := a1.later hb
 have hw2 := hw1.trans (hb.mono hw1.size)
 clear ca la hb a1
 have ca := a2.cell
 have la := a2.lt
 go_wp2_with fail
 refine (heldStrs_any c.globals _ _ (k + sumOf RouT.cnt c.routines + sumOf RecT.cnt c.records) _ lo hi (by push_cast; omega) (hglobals.below hw2 hhi) (Nat.le_trans hhi hw2.size) (by omega) (by omega)).mono ?_; rintro e w3 ⟨rfl, hb⟩
 have a3 := a2.later hb
 have hw3 := hw2.trans (hb.mono hw2.size)
 clear ca la hb a2
 have ca := a3.cell
 have la := a3.lt
 go_wp2_with fail
 go_ret
 exact ⟨ret_int (by push_cast; omega), hw3⟩
end Go.Proofs.YtjeomamdlmoghaaGreatDoor
end
end
