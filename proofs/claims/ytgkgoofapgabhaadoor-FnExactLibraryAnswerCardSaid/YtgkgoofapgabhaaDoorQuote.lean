/- QuoteText: l4Quote of the reference, quoteWith of the program: both return quoted. -/
import Derived.Test.YtgkgoofapgabhaaDoorProg
import Derived.Test.YtgkgoofapgabhaaDoorMem
import Derived.Deep.RegionHeld3
namespace Go.Proofs.YtgkgoofapgabhaaDoor
open Go.RowKit

def hexd (x : Int) : Int := if x < 10 then 48 + x else 87 + x
/-- one byte as it stands between quotes q -/
def qcells (q b : Int) : List Int :=
  if b = q ∨ b = 92 then [92, b] else if b = 10 then [92, 110] else if b = 9 then [92, 116] else if b < 32 ∨ 126 < b then [92, 120, hexd (b / 16), hexd (b % 16)] else [b]
def bytesI (s : ByteArray) : List Int := s.data.toList.map fun b => (b.toNat : Int)
def quoteTo (q : Int) (s : ByteArray) (k : Nat) : List Int := q :: ((bytesI s).take k).flatMap (qcells q)
def quoted (q : Int) (s : ByteArray) : ByteArray := strOfNums (quoteTo q s s.size ++ [q])
theorem bytesI_get (s : ByteArray) (k : Nat) (h : k < s.size) : (bytesI s)[k]? = some (s[k].toNat : Int) := by
  unfold bytesI
  rw [List.getElem?_map, List.getElem?_eq_getElem (by simpa using h)]
  rfl
theorem take_snoc' {α : Type} {l : List α} {k : Nat} {z : α} (h : l[k]? = some z) : l.take (k + 1) = l.take k ++ [z] := by
  obtain ⟨hk, rfl⟩ := List.getElem?_eq_some_iff.1 h
  exact List.take_succ_eq_append_getElem hk
theorem quoteTo_succ (q : Int) (s : ByteArray) (k : Nat) (h : k < s.size) : quoteTo q s (k + 1) = quoteTo q s k ++ qcells q s[k].toNat := by
  rw [quoteTo, take_snoc' (bytesI_get s k h)]; simp [quoteTo]
theorem qcells_len (q b : Int) : (qcells q b).length ≤ 4 := by unfold qcells; repeat (first | split | simp)
theorem quoteTo_len (q : Int) (s : ByteArray) (k : Nat) (h : k ≤ s.size) : (quoteTo q s k).length ≤ 1 + 4 * k := by
  induction k with
  | zero => simp [quoteTo]
  | succ k ih => rw [quoteTo_succ q s k (by omega), List.length_append]; have := ih (by omega); have := qcells_len q s[k].toNat; omega
theorem quoteTo_pos (q : Int) (s : ByteArray) (k : Nat) : 0 < (quoteTo q s k).length := by simp [quoteTo]
theorem quoted_size (q : Int) (s : ByteArray) : (quoted q s).size ≤ 2 + 4 * s.size := by
  rw [quoted, strOfNums_size, List.length_append]; have := quoteTo_len q s s.size (Nat.le_refl _); simp; omega
theorem qc1 {q b : Int} (h : b = q ∨ b = 92) : qcells q b = [92, b] := by rw [qcells, if_pos h]
theorem qc2 {q b : Int} (h : ¬ (b = q ∨ b = 92)) (h2 : b = 10) : qcells q b = [92, 110] := by rw [qcells, if_neg h, if_pos h2]
theorem qc3 {q b : Int} (h : ¬ (b = q ∨ b = 92)) (h2 : ¬ b = 10) (h3 : b = 9) : qcells q b = [92, 116] := by rw [qcells, if_neg h, if_neg h2, if_pos h3]
theorem qc4 {q b : Int} (h : ¬ (b = q ∨ b = 92)) (h2 : ¬ b = 10) (h3 : ¬ b = 9) (h4 : b < 32 ∨ 126 < b) : qcells q b = [92, 120, hexd (b / 16), hexd (b % 16)] := by rw [qcells, if_neg h, if_neg h2, if_neg h3, if_pos h4]
theorem qc5 {q b : Int} (h : ¬ (b = q ∨ b = 92)) (h2 : ¬ b = 10) (h3 : ¬ b = 9) (h4 : ¬ (b < 32 ∨ 126 < b)) : qcells q b = [b] := by rw [qcells, if_neg h, if_neg h2, if_neg h3, if_neg h4]

theorem hex_at (x : Int) (h0 : 0 ≤ x) (h1 : x < 16) (hp : x.toNat < (⟨#[48, 49, 50, 51, 52, 53, 54, 55, 56, 57, 97, 98, 99, 100, 101, 102]⟩ : ByteArray).size) :
    (((⟨#[48, 49, 50, 51, 52, 53, 54, 55, 56, 57, 97, 98, 99, 100, 101, 102]⟩ : ByteArray)[x.toNat]'hp).toNat : Int) = hexd x := by
  obtain ⟨n, rfl⟩ : ∃ n : Nat, x = n := ⟨x.toNat, by omega⟩
  have hn : n < 16 := by omega
  match n, hn with
  | 0, _ => rfl
  | 1, _ => rfl
  | 2, _ => rfl
  | 3, _ => rfl
  | 4, _ => rfl
  | 5, _ => rfl
  | 6, _ => rfl
  | 7, _ => rfl
  | 8, _ => rfl
  | 9, _ => rfl
  | 10, _ => rfl
  | 11, _ => rfl
  | 12, _ => rfl
  | 13, _ => rfl
  | 14, _ => rfl
  | 15, _ => rfl
theorem and15 (b : Nat) (h : b ≤ 255) : bits BinOp.and IntKind.u8 (b : Int) 15 = ((b % 16 : Nat) : Int) := by
  have : ∀ b : Fin 256, bits BinOp.and IntKind.u8 (b.val : Int) 15 = ((b.val % 16 : Nat) : Int) := by decide +kernel
  exact this ⟨b, by omega⟩

theorem info_byte : (Tryd.prog.info? 5).map (fun i => (i.zero, i.size, i.bytes)) = some (some (.int .u8 0), 1, 1) := by kernel_rfl

theorem spec_l4Hex (x : Int) (w : World) (h0 : 0 ≤ x) (h1 : x ≤ 15) :
    Calls Tryd.prog 81 #[.int .i64 x] w fun e w' => e = .returned (.int .u8 (hexd x)) ∧ w = w' := by
  by_cases hx : x < 10
  · go_enter Tryd.func81, Tryd.ntmps81
    go_wp2
    go_ret
    exact ⟨ret_int (by rw [hexd, if_pos hx]), rfl⟩
  · go_enter Tryd.func81, Tryd.ntmps81
    go_wp2
    go_ret
    exact ⟨ret_int (by rw [hexd, if_neg (by omega)]), rfl⟩

set_option maxRecDepth 100000 in
set_option maxHeartbeats 4000000 in
theorem spec_l4Quote (s : ByteArray) (q : Nat) (w : World) (hs : s.size ≤ 1048576) (_hq : q ≤ 255) :
    Calls Tryd.prog 59 #[.string s, .int .u8 q] w fun e w' => e = .returned (.string (quoted q s)) ∧ Below w.heap.size w w' := by
  have hcv := fun (W : World) (u : Value) (n : Nat) (xs : List Int) (h : W.ownsRow w.heap.size 5 1 u n (xs.map (.int .u8))) (hn : 0 < n) => run_convert_own (P := Tryd.prog) 66 9 5 Tryd.underlying66 Tryd.underlying5 Tryd.underlying9 h hn
  have HCV := Lib.hid hcv
  clear hcv
  go_enter Tryd.func59, Tryd.ntmps59
  go_wp2_with fail
  go_loopw [5, 6] (fun v i wr => ∃ k : Nat, k ≤ s.size ∧ i = .int .i64 k ∧ wr.ownsRow w.heap.size 5 1 v (quoteTo q s k).length ((quoteTo q s k).map (.int .u8)) ∧ Below w.heap.size w wr) (fun _ i _ => s.size - (intOf i).toNat)
  case atStart => exact ⟨0, Nat.zero_le _, rfl, World.ownsRow_lit w #[.int .u8 q] 1 (Nat.le_refl _) (by decide) rfl, (Below.refl _ _).alloc (Nat.le_refl _) _⟩
  case round =>
    obtain ⟨k, hk, rfl, hown, hb⟩ := hrel
    obtain ⟨wo, rfl⟩ : ∃ wo : World, wo = wr := ⟨_, rfl⟩
    obtain ⟨v, hv⟩ : ∃ v, v = u5 := ⟨_, rfl⟩
    subst hv
    have hlen := quoteTo_len q s k hk
    by_cases hlt : k < s.size
    · have HS := Lib.hid (quoteTo_succ q s k hlt)
      have hc255 : s[k].toNat ≤ 255 := by have := s[k].toNat_lt; omega
      by_cases h1 : (s[k].toNat : Int) = q ∨ (s[k].toNat : Int) = 92
      · have hL := Lib.hid (qc1 h1)
        by_cases h1a : (s[k].toNat : Int) = q
        · have hb1 : ((s[k].toNat : Int) == (q : Int)) = true := beq_iff_eq.2 h1a
          clear h1 h1a
          have HS2 : Hid (quoteTo q s (k + 1) = quoteTo q s k ++ ([92, (s[k].toNat : Int)] : List Int)) := by show _ = _; rw [HS.out, hL.out]
          clear HS
          go_wp2_with (first | (at_builtin; refine wpList_pushN rfl (.tmp 26) (.tmp 28) 66 rfl 5 _ 1 1 info_byte Tryd.underlying66 rfl (by decide) (by decide) w.heap.size v _ _ rfl hown #[.int .u8 92, .int .u8 s[k].toNat] 2 2 _ rfl rfl (by simp [Value.oneCell']) (by omega) hb.size ?_))
          rintro v' w1 hown' hgrow -
          have hb1 := below_push hb hb.size hown hgrow
          have ho2 : w1.ownsRow w.heap.size 5 1 v' (quoteTo q s (k + 1)).length ((quoteTo q s (k + 1)).map (.int .u8)) := by rw [HS2.out]; simpa using hown'
          clear hown' hgrow
          go_wp2_with fail
          go_roundw
          case rel => exact ⟨k + 1, by omega, by go_num, ho2, hb1⟩
          case measure => simp [intOf]; omega
        · have h1b : (s[k].toNat : Int) = 92 := by omega
          have hb1 : ((s[k].toNat : Int) == (q : Int)) = false := beq_eq_false_iff_ne.2 h1a
          have hb2 : ((s[k].toNat : Int) == 92) = true := beq_iff_eq.2 h1b
          clear h1 h1a h1b
          have HS2 : Hid (quoteTo q s (k + 1) = quoteTo q s k ++ ([92, (s[k].toNat : Int)] : List Int)) := by show _ = _; rw [HS.out, hL.out]
          clear HS
          go_wp2_with (first | (at_builtin; refine wpList_pushN rfl (.tmp 26) (.tmp 28) 66 rfl 5 _ 1 1 info_byte Tryd.underlying66 rfl (by decide) (by decide) w.heap.size v _ _ rfl hown #[.int .u8 92, .int .u8 s[k].toNat] 2 2 _ rfl rfl (by simp [Value.oneCell']) (by omega) hb.size ?_))
          rintro v' w1 hown' hgrow -
          have hb1 := below_push hb hb.size hown hgrow
          have ho2 : w1.ownsRow w.heap.size 5 1 v' (quoteTo q s (k + 1)).length ((quoteTo q s (k + 1)).map (.int .u8)) := by rw [HS2.out]; simpa using hown'
          clear hown' hgrow
          go_wp2_with fail
          go_roundw
          case rel => exact ⟨k + 1, by omega, by go_num, ho2, hb1⟩
          case measure => simp [intOf]; omega
      have hb1 : ((s[k].toNat : Int) == (q : Int)) = false := beq_eq_false_iff_ne.2 (by omega)
      have hb2 : ((s[k].toNat : Int) == 92) = false := beq_eq_false_iff_ne.2 (by omega)
      by_cases h2 : (s[k].toNat : Int) = 10
      · have hL := Lib.hid (qc2 h1 h2)
        have hb3 : ((s[k].toNat : Int) == 10) = true := beq_iff_eq.2 h2
        clear h1 h2
        have HS2 : Hid (quoteTo q s (k + 1) = quoteTo q s k ++ ([92, 110] : List Int)) := by show _ = _; rw [HS.out, hL.out]
        clear HS
        go_wp2_with (first | (at_builtin; refine wpList_pushN rfl (.tmp 32) (.tmp 33) 66 rfl 5 _ 1 1 info_byte Tryd.underlying66 rfl (by decide) (by decide) w.heap.size v _ _ rfl hown #[.int .u8 92, .int .u8 110] 2 2 _ rfl rfl (by simp [Value.oneCell']) (by omega) hb.size ?_))
        rintro v' w1 hown' hgrow -
        have hb1 := below_push hb hb.size hown hgrow
        have ho2 : w1.ownsRow w.heap.size 5 1 v' (quoteTo q s (k + 1)).length ((quoteTo q s (k + 1)).map (.int .u8)) := by rw [HS2.out]; simpa using hown'
        clear hown' hgrow
        go_wp2_with fail
        go_roundw
        case rel => exact ⟨k + 1, by omega, by go_num, ho2, hb1⟩
        case measure => simp [intOf]; omega
      have hb3 : ((s[k].toNat : Int) == 10) = false := beq_eq_false_iff_ne.2 (by omega)
      by_cases h3 : (s[k].toNat : Int) = 9
      · have hL := Lib.hid (qc3 h1 h2 h3)
        have hb4 : ((s[k].toNat : Int) == 9) = true := beq_iff_eq.2 h3
        clear h1 h2 h3
        have HS2 : Hid (quoteTo q s (k + 1) = quoteTo q s k ++ ([92, 116] : List Int)) := by show _ = _; rw [HS.out, hL.out]
        clear HS
        go_wp2_with (first | (at_builtin; refine wpList_pushN rfl (.tmp 37) (.tmp 38) 66 rfl 5 _ 1 1 info_byte Tryd.underlying66 rfl (by decide) (by decide) w.heap.size v _ _ rfl hown #[.int .u8 92, .int .u8 116] 2 2 _ rfl rfl (by simp [Value.oneCell']) (by omega) hb.size ?_))
        rintro v' w1 hown' hgrow -
        have hb1 := below_push hb hb.size hown hgrow
        have ho2 : w1.ownsRow w.heap.size 5 1 v' (quoteTo q s (k + 1)).length ((quoteTo q s (k + 1)).map (.int .u8)) := by rw [HS2.out]; simpa using hown'
        clear hown' hgrow
        go_wp2_with fail
        go_roundw
        case rel => exact ⟨k + 1, by omega, by go_num, ho2, hb1⟩
        case measure => simp [intOf]; omega
      have hb4 : ((s[k].toNat : Int) == 9) = false := beq_eq_false_iff_ne.2 (by omega)
      by_cases h4 : (s[k].toNat : Int) < 32 ∨ 126 < (s[k].toNat : Int)
      · have hL := Lib.hid (qc4 h1 h2 h3 h4)
        clear h1 h2 h3
        rcases h4 with h4 | h4
        all_goals
          have HS2 : Hid (quoteTo q s (k + 1) = quoteTo q s k ++ ([92, 120, (hexd ((s[k].toNat : Int) / 16)), (hexd ((s[k].toNat : Int) % 16))] : List Int)) := by show _ = _; rw [HS.out, hL.out]
          clear HS
          go_wp2_with fail
          refine (spec_l4Hex _ _ (by omega) (by omega)).mono ?_; rintro e w' ⟨rfl, rfl⟩
          go_wp2_with fail
          refine (spec_l4Hex _ _ (by omega) (by omega)).mono ?_; rintro e w' ⟨rfl, rfl⟩
          go_wp2_with (first | (at_builtin; refine wpList_pushN rfl (.tmp 46) (.tmp 55) 66 rfl 5 _ 1 1 info_byte Tryd.underlying66 rfl (by decide) (by decide) w.heap.size v _ _ rfl hown #[.int .u8 92, .int .u8 120, .int .u8 (hexd ((s[k].toNat : Int) / 16)), .int .u8 (hexd ((s[k].toNat : Int) % 16))] 4 4 _ rfl rfl (by simp [Value.oneCell']) (by omega) hb.size ?_))
          rintro v' w1 hown' hgrow -
          have hb1 := below_push hb hb.size hown hgrow
          have ho2 : w1.ownsRow w.heap.size 5 1 v' (quoteTo q s (k + 1)).length ((quoteTo q s (k + 1)).map (.int .u8)) := by rw [HS2.out]; simpa using hown'
          clear hown' hgrow
          go_wp2_with fail
          go_roundw
          case rel => exact ⟨k + 1, by omega, by go_num, ho2, hb1⟩
          case measure => simp [intOf]; omega
      have hL := Lib.hid (qc5 h1 h2 h3 h4)
      have h4a : ¬ (s[k].toNat : Int) < 32 := by omega
      have h4b : ¬ 126 < (s[k].toNat : Int) := by omega
      clear h1 h2 h3 h4
      have HS2 : Hid (quoteTo q s (k + 1) = quoteTo q s k ++ ([(s[k].toNat : Int)] : List Int)) := by show _ = _; rw [HS.out, hL.out]
      clear HS
      go_wp2_with (first | (at_builtin; refine wpList_pushN rfl (.tmp 57) (.tmp 59) 66 rfl 5 _ 1 1 info_byte Tryd.underlying66 rfl (by decide) (by decide) w.heap.size v _ _ rfl hown #[.int .u8 s[k].toNat] 1 1 _ rfl rfl (by simp [Value.oneCell']) (by omega) hb.size ?_))
      rintro v' w1 hown' hgrow -
      have hb1 := below_push hb hb.size hown hgrow
      have ho2 : w1.ownsRow w.heap.size 5 1 v' (quoteTo q s (k + 1)).length ((quoteTo q s (k + 1)).map (.int .u8)) := by rw [HS2.out]; simpa using hown'
      clear hown' hgrow
      go_wp2_with fail
      go_roundw
      case rel => exact ⟨k + 1, by omega, by go_num, ho2, hb1⟩
      case measure => simp [intOf]; omega
    · obtain rfl : k = s.size := by omega
      go_wp2_with (first | (at_builtin; refine wpList_pushN rfl (.tmp 61) (.tmp 63) 66 rfl 5 _ 1 1 info_byte Tryd.underlying66 rfl (by decide) (by decide) w.heap.size v _ _ rfl hown #[.int .u8 q] 1 1 _ rfl rfl (by simp [Value.oneCell']) (by omega) hb.size ?_))
      rintro v' w1 hown' hgrow -
      have hb1 := below_push hb hb.size hown hgrow
      have hc := HCV.out w1 v' _ (quoteTo q s s.size ++ [(q : Int)]) (by simpa using hown') (by omega)
      clear hown' hgrow
      go_wp2_with fail
      go_ret
      exact ⟨rfl, hb1⟩

set_option maxRecDepth 100000 in
set_option maxHeartbeats 4000000 in
theorem impl_quoteWith (s : ByteArray) (q : Nat) (w : World) (hs : s.size ≤ 1048576) (_hq : q ≤ 255) :
    Calls Tryd.prog 61 #[.string s, .int .u8 q] w fun e w' => e = .returned (.string (quoted q s)) ∧ Below w.heap.size w w' := by
  have hcv := fun (W : World) (u : Value) (n : Nat) (xs : List Int) (h : W.ownsRow w.heap.size 5 1 u n (xs.map (.int .u8))) (hn : 0 < n) => run_convert_own (P := Tryd.prog) 66 9 5 Tryd.underlying66 Tryd.underlying5 Tryd.underlying9 h hn
  have HCV := Lib.hid hcv
  clear hcv
  go_enter Tryd.func61, Tryd.ntmps61
  go_wp2_with fail
  go_loopw [5, 6] (fun v i wr => ∃ k : Nat, k ≤ s.size ∧ i = .int .i64 k ∧ wr.ownsRow w.heap.size 5 1 v (quoteTo q s k).length ((quoteTo q s k).map (.int .u8)) ∧ Below w.heap.size w wr) (fun _ i _ => s.size - (intOf i).toNat)
  case atStart => exact ⟨0, Nat.zero_le _, rfl, World.ownsRow_lit w #[.int .u8 q] 1 (Nat.le_refl _) (by decide) rfl, (Below.refl _ _).alloc (Nat.le_refl _) _⟩
  case round =>
    obtain ⟨k, hk, rfl, hown, hb⟩ := hrel
    obtain ⟨wo, rfl⟩ : ∃ wo : World, wo = wr := ⟨_, rfl⟩
    obtain ⟨v, hv⟩ : ∃ v, v = u5 := ⟨_, rfl⟩
    subst hv
    have hlen := quoteTo_len q s k hk
    by_cases hlt : k < s.size
    · have HS := Lib.hid (quoteTo_succ q s k hlt)
      have hc255 : s[k].toNat ≤ 255 := by have := s[k].toNat_lt; omega
      by_cases h1 : (s[k].toNat : Int) = q ∨ (s[k].toNat : Int) = 92
      · have hL := Lib.hid (qc1 h1)
        by_cases h1a : (s[k].toNat : Int) = q
        · have hb1 : ((s[k].toNat : Int) == (q : Int)) = true := beq_iff_eq.2 h1a
          clear h1 h1a
          have HS2 : Hid (quoteTo q s (k + 1) = quoteTo q s k ++ ([92, (s[k].toNat : Int)] : List Int)) := by show _ = _; rw [HS.out, hL.out]
          clear HS
          go_wp2_with (first | (at_builtin; refine wpList_pushN rfl (.tmp 31) (.tmp 33) 66 rfl 5 _ 1 1 info_byte Tryd.underlying66 rfl (by decide) (by decide) w.heap.size v _ _ rfl hown #[.int .u8 92, .int .u8 s[k].toNat] 2 2 _ rfl rfl (by simp [Value.oneCell']) (by omega) hb.size ?_))
          rintro v' w1 hown' hgrow -
          have hb1 := below_push hb hb.size hown hgrow
          have ho2 : w1.ownsRow w.heap.size 5 1 v' (quoteTo q s (k + 1)).length ((quoteTo q s (k + 1)).map (.int .u8)) := by rw [HS2.out]; simpa using hown'
          clear hown' hgrow
          go_wp2_with fail
          go_roundw
          case rel => exact ⟨k + 1, by omega, by go_num, ho2, hb1⟩
          case measure => simp [intOf]; omega
        · have h1b : (s[k].toNat : Int) = 92 := by omega
          have hb1 : ((s[k].toNat : Int) == (q : Int)) = false := beq_eq_false_iff_ne.2 h1a
          have hb2 : ((s[k].toNat : Int) == 92) = true := beq_iff_eq.2 h1b
          clear h1 h1a h1b
          have HS2 : Hid (quoteTo q s (k + 1) = quoteTo q s k ++ ([92, (s[k].toNat : Int)] : List Int)) := by show _ = _; rw [HS.out, hL.out]
          clear HS
          go_wp2_with (first | (at_builtin; refine wpList_pushN rfl (.tmp 31) (.tmp 33) 66 rfl 5 _ 1 1 info_byte Tryd.underlying66 rfl (by decide) (by decide) w.heap.size v _ _ rfl hown #[.int .u8 92, .int .u8 s[k].toNat] 2 2 _ rfl rfl (by simp [Value.oneCell']) (by omega) hb.size ?_))
          rintro v' w1 hown' hgrow -
          have hb1 := below_push hb hb.size hown hgrow
          have ho2 : w1.ownsRow w.heap.size 5 1 v' (quoteTo q s (k + 1)).length ((quoteTo q s (k + 1)).map (.int .u8)) := by rw [HS2.out]; simpa using hown'
          clear hown' hgrow
          go_wp2_with fail
          go_roundw
          case rel => exact ⟨k + 1, by omega, by go_num, ho2, hb1⟩
          case measure => simp [intOf]; omega
      have hb1 : ((s[k].toNat : Int) == (q : Int)) = false := beq_eq_false_iff_ne.2 (by omega)
      have hb2 : ((s[k].toNat : Int) == 92) = false := beq_eq_false_iff_ne.2 (by omega)
      by_cases h2 : (s[k].toNat : Int) = 10
      · have hL := Lib.hid (qc2 h1 h2)
        have hb3 : ((s[k].toNat : Int) == 10) = true := beq_iff_eq.2 h2
        clear h1 h2
        have HS2 : Hid (quoteTo q s (k + 1) = quoteTo q s k ++ ([92, 110] : List Int)) := by show _ = _; rw [HS.out, hL.out]
        clear HS
        go_wp2_with (first | (at_builtin; refine wpList_pushN rfl (.tmp 38) (.tmp 39) 66 rfl 5 _ 1 1 info_byte Tryd.underlying66 rfl (by decide) (by decide) w.heap.size v _ _ rfl hown #[.int .u8 92, .int .u8 110] 2 2 _ rfl rfl (by simp [Value.oneCell']) (by omega) hb.size ?_))
        rintro v' w1 hown' hgrow -
        have hb1 := below_push hb hb.size hown hgrow
        have ho2 : w1.ownsRow w.heap.size 5 1 v' (quoteTo q s (k + 1)).length ((quoteTo q s (k + 1)).map (.int .u8)) := by rw [HS2.out]; simpa using hown'
        clear hown' hgrow
        go_wp2_with fail
        go_roundw
        case rel => exact ⟨k + 1, by omega, by go_num, ho2, hb1⟩
        case measure => simp [intOf]; omega
      have hb3 : ((s[k].toNat : Int) == 10) = false := beq_eq_false_iff_ne.2 (by omega)
      by_cases h3 : (s[k].toNat : Int) = 9
      · have hL := Lib.hid (qc3 h1 h2 h3)
        have hb4 : ((s[k].toNat : Int) == 9) = true := beq_iff_eq.2 h3
        clear h1 h2 h3
        have HS2 : Hid (quoteTo q s (k + 1) = quoteTo q s k ++ ([92, 116] : List Int)) := by show _ = _; rw [HS.out, hL.out]
        clear HS
        go_wp2_with (first | (at_builtin; refine wpList_pushN rfl (.tmp 44) (.tmp 45) 66 rfl 5 _ 1 1 info_byte Tryd.underlying66 rfl (by decide) (by decide) w.heap.size v _ _ rfl hown #[.int .u8 92, .int .u8 116] 2 2 _ rfl rfl (by simp [Value.oneCell']) (by omega) hb.size ?_))
        rintro v' w1 hown' hgrow -
        have hb1 := below_push hb hb.size hown hgrow
        have ho2 : w1.ownsRow w.heap.size 5 1 v' (quoteTo q s (k + 1)).length ((quoteTo q s (k + 1)).map (.int .u8)) := by rw [HS2.out]; simpa using hown'
        clear hown' hgrow
        go_wp2_with fail
        go_roundw
        case rel => exact ⟨k + 1, by omega, by go_num, ho2, hb1⟩
        case measure => simp [intOf]; omega
      have hb4 : ((s[k].toNat : Int) == 9) = false := beq_eq_false_iff_ne.2 (by omega)
      by_cases h4 : (s[k].toNat : Int) < 32 ∨ 126 < (s[k].toNat : Int)
      · have hL := Lib.hid (qc4 h1 h2 h3 h4)
        clear h1 h2 h3
        rcases h4 with h4 | h4
        all_goals
          have HS2 : Hid (quoteTo q s (k + 1) = quoteTo q s k ++ ([92, 120, (hexd ((s[k].toNat : Int) / 16)), (hexd ((s[k].toNat : Int) % 16))] : List Int)) := by show _ = _; rw [HS.out, hL.out]
          clear HS
          go_wp2_with fail
          have hG := and15 s[k].toNat hc255
          have g1 : (0 : Int) ≤ ((s[k].toNat % 16 : Nat) : Int) := by omega
          have g2 : ((s[k].toNat % 16 : Nat) : Int) < 16 := by omega
          have g3 : (0 : Int) ≤ (s[k].toNat : Int) / 16 := by omega
          have g4 : (s[k].toNat : Int) / 16 < 16 := by omega
          go_region_held3 (fun w' => Below w.heap.size w w') (first | exact hb | exact hb.drew | exact (hb.alloc hb.size _).drew | exact below_push hb hb.size hown hgrow)
            ((refine step_pushN rfl (.tmp 54) (.tmp 61) 66 rfl 5 _ 1 1 info_byte Tryd.underlying66 rfl (by decide) (by decide) w.heap.size v _ _ rfl hown #[.int .u8 92, .int .u8 120, _, _] 4 4 _ rfl (Same.refl _).drew rfl (by simp [Value.oneCell']) (by omega) hb.size ?_; intro v' w1 hown' hgrow hat))
          all_goals
            have hb1 := below_push hb hb.size hown hgrow
            have ho2 : w1.ownsRow w.heap.size 5 1 v' (quoteTo q s (k + 1)).length ((quoteTo q s (k + 1)).map (.int .u8)) := by have d1 := hex_at ((s[k].toNat : Int) / 16) g3 g4 (by show ((s[k].toNat : Int) / 16).toNat < 16; omega); have d2 := hex_at ((s[k].toNat : Int) % 16) (by omega) (by omega) (by show ((s[k].toNat : Int) % 16).toNat < 16; omega); rw [HS2.out]; simpa [d1, d2] using hown'
            clear hown' hgrow hG
            go_wp2_with fail
            go_roundw
            case rel => exact ⟨k + 1, by omega, by go_num, ho2, hb1⟩
            case measure => simp [intOf]; omega
      have hL := Lib.hid (qc5 h1 h2 h3 h4)
      have h4a : ¬ (s[k].toNat : Int) < 32 := by omega
      have h4b : ¬ 126 < (s[k].toNat : Int) := by omega
      clear h1 h2 h3 h4
      have HS2 : Hid (quoteTo q s (k + 1) = quoteTo q s k ++ ([(s[k].toNat : Int)] : List Int)) := by show _ = _; rw [HS.out, hL.out]
      clear HS
      go_wp2_with (first | (at_builtin; refine wpList_pushN rfl (.tmp 19) (.tmp 21) 66 rfl 5 _ 1 1 info_byte Tryd.underlying66 rfl (by decide) (by decide) w.heap.size v _ _ rfl hown #[.int .u8 s[k].toNat] 1 1 _ rfl rfl (by simp [Value.oneCell']) (by omega) hb.size ?_))
      rintro v' w1 hown' hgrow -
      have hb1 := below_push hb hb.size hown hgrow
      have ho2 : w1.ownsRow w.heap.size 5 1 v' (quoteTo q s (k + 1)).length ((quoteTo q s (k + 1)).map (.int .u8)) := by rw [HS2.out]; simpa using hown'
      clear hown' hgrow
      go_wp2_with fail
      go_roundw
      case rel => exact ⟨k + 1, by omega, by go_num, ho2, hb1⟩
      case measure => simp [intOf]; omega
    · obtain rfl : k = s.size := by omega
      go_wp2_with (first | (at_builtin; refine wpList_pushN rfl (.tmp 63) (.tmp 65) 66 rfl 5 _ 1 1 info_byte Tryd.underlying66 rfl (by decide) (by decide) w.heap.size v _ _ rfl hown #[.int .u8 q] 1 1 _ rfl rfl (by simp [Value.oneCell']) (by omega) hb.size ?_))
      rintro v' w1 hown' hgrow -
      have hb1 := below_push hb hb.size hown hgrow
      have hc := HCV.out w1 v' _ (quoteTo q s s.size ++ [(q : Int)]) (by simpa using hown') (by omega)
      clear hown' hgrow
      go_wp2_with fail
      go_ret
      exact ⟨rfl, hb1⟩
end Go.Proofs.YtgkgoofapgabhaaDoor
