/- LibraryAnswer of the program: the pairs of bytes; both sides whole. -/
import Derived.Test.YtgkgoofapgabhaaDoorLibAnsC
import Derived.Test.YtgkgoofapgabhaaDoorLibAnsD
import Derived.Deep.RegionLaw
namespace Go.Proofs.YtgkgoofapgabhaaDoor
open Go.RowKit
set_option linter.unusedVariables false

theorem run_convert_byte2 {P : Program} (src dst e : TypeId) (hs : P.underlying src = some (.slice e)) (he : P.underlying e = some (.int .u8)) (hd : P.underlying dst = some .string) (w : World) (x y : Int) (c : Nat) (t : TypeId) :
    (convert src dst (.slice (some ⟨w.heap.size, 0, none⟩) 2 c)).run P (w.alloc (.cells #[.int .u8 x, .int .u8 y] t)).drew = .ok (.string ⟨#[UInt8.ofNat x.toNat, UInt8.ofNat y.toNat]⟩) (w.alloc (.cells #[.int .u8 x, .int .u8 y] t)).drew := by
  have hb : Blk (w.alloc (.cells #[.int .u8 x, .int .u8 y] t)).drew w.heap.size t #[.int .u8 x, .int .u8 y] := Blk.new w _ _
  have hl := run_loadCells_list (P := P) (w.alloc (.cells #[.int .u8 x, .int .u8 y] t)).drew ⟨w.heap.size, 0, none⟩ [.int .u8 x, .int .u8 y] (fun j u hu => by
    rw [Addr.add_lit, Nat.zero_add, hb.cell]; simpa using hu)
  rw [run_convert_bytes_string _ src dst e _ 2 c hs he hd, run_bytesToString _ _ 2 c [x, y] (by simpa using hl)]
  rfl
theorem extract_one (s : ByteArray) (i : Nat) (h : i < s.size) : s.extract i (i + 1) = ⟨#[s[i]]⟩ := by
  apply ByteArray.ext
  apply Array.ext
  · simp; omega
  · intro j h1 h2
    simp at h2
    subst h2
    simp
    rfl
theorem twoOf_eq (s : ByteArray) (i : Nat) (h : i < s.size) : twoOf s i = ⟨#[s[i], s[s.size - 1 - i]'(by omega)]⟩ := by
  have e : s.size - i = s.size - 1 - i + 1 := by omega
  unfold twoOf
  rw [e, extract_one s i h, extract_one s (s.size - 1 - i) (by omega)]
  apply ByteArray.ext
  simp

theorem step_push_at {P : Program} {w W : World} {ops : Array Oper} {o : Oper} {a : Act} {K : Act → World → Prop} {Q : Exit → Act → World → Prop} {E : Prop} (p : Nat) (hp : p = w.heap.size) (hgd : o.guard = none) (s x : Operand) (t : TypeId)
    (ho : o.op = .call { callee := .builtin .append, args := #[s, x], argTypes := #[t, t] })
    (e : TypeId) (z : Value) (size bytes : Nat) (hinfo : (P.info? e).map (fun i => (i.zero, i.size, i.bytes)) = some (some z, size, bytes)) (ht : P.underlying t = some (.slice e)) (hzs : z.cells.size = size) (hsz : 0 < size) (hby : 0 < bytes)
    (base : Nat) (v : Value) (n : Nat) (xs : List Value) (hs : a.eval s = v) (hown : w.ownsRow base e size v n xs)
    (cs : Array Value) (c : Nat) (t' : TypeId) (hx : a.eval x = .slice (some ⟨p, 0, none⟩) 1 c) (hW : Same (w.alloc (.cells cs t')) W) (hl : cs.size = size) (h1 : ∀ u ∈ cs.toList, u.oneCell' = true)
    (hroom : (n + 1) * bytes ≤ 140737488355328) (hbase : base ≤ w.heap.size)
    (h : ∀ v' w', w'.ownsRow base e size v' (n + 1) (xs ++ cs.toList) → w.grownBy w' v.ownBlock → (v'.ownBlock = v.ownBlock ∨ v'.ownBlock = some (w.heap.size + 1)) → K (a.put o.dst v') w') :
    if Region.wanted o (yielded ops a.tmps) = true then Oper.wp P o a W K Q else E := by
  subst hp
  exact step_push hgd s x t ho e z size bytes hinfo ht hzs hsz hby base v n xs hs hown cs c t' hx hW hl h1 hroom hbase h

set_option maxRecDepth 100000 in
set_option maxHeartbeats 1000000 in
theorem impl_LA7 (s : ByteArray) (w : World) (hs : s.size ≤ 12) (hsh : w.ShapedOpen Tryd.prog) (hp : PowTab w) :
    Calls Tryd.prog 23 #[.int .i64 7, .string s] w (OwnAns (twosTo s s.size ++ [formatInt s.size ++ formatInt s.size]) true w) := by
  have hfs := formatInt_size s.size (by omega) (by omega)
  go_enter Tryd.func23, Tryd.ntmps23
  go_wp2_with fail
  refine (impl_LibrarySourceI 7 6 s _ rfl (by omega) hs hsh).mono ?_; rintro e w1 ⟨rfl, hb1⟩
  go_wp2_with fail
  go_loopw [9, 105] (fun v i wr => ∃ k : Nat, k ≤ s.size ∧ i = .int .i64 k ∧ wr.ownsRow w.heap.size 9 1 v k ((twosTo s k).map .string) ∧ Below w.heap.size w wr) (fun _ i _ => s.size - (intOf i).toNat)
  case atStart => exact ⟨0, Nat.zero_le _, rfl, own_base (World.ownsRow_lit w1 #[] 0 (Nat.le_refl _) (by decide) rfl) hb1.size, hb1.alloc hb1.size _⟩
  case round =>
    clear hb1
    obtain ⟨k, hk, rfl, hown, hb⟩ := hrel
    obtain ⟨wo, rfl⟩ : ∃ wo : World, wo = wr := ⟨_, rfl⟩
    obtain ⟨v, hv⟩ : ∃ v, v = u9 := ⟨_, rfl⟩
    subst hv
    by_cases hlt : k < s.size
    · have HT := Lib.hid (twoOf_eq s k hlt)
      obtain ⟨j, hj⟩ : ∃ j : Nat, j = s.size - 1 - k := ⟨_, rfl⟩
      have hjs : j < s.size := by omega
      have HC : Hid ((⟨#[s[k], s[j]]⟩ : ByteArray) = twoOf s k) := by show _ = _; subst hj; rw [HT.out]
      go_wp2_with fail
      have e0 : (0 : Int) ≤ (k : Int) := by omega
      have e5 : (k : Int) < (s.size : Int) := by omega
      have f0 : (0 : Int) ≤ (j : Int) := by omega
      have f2 : (j : Int) < (s.size : Int) := by omega
      have g1 : IntKind.i64.wrap ((s.size : Int) - 1) = (s.size : Int) - 1 := IntWalk.i64_in _ (by omega)
      have g2 : IntKind.i64.wrap ((s.size : Int) - 1 - (k : Int)) = (j : Int) := (IntWalk.i64_in _ (by omega)).trans (by omega)
      have hcv := run_convert_byte2 (P := Tryd.prog) 66 9 5 Tryd.underlying66 Tryd.underlying5 Tryd.underlying9 wo s[k].toNat s[j].toNat 2 5
      simp only [Int.toNat_natCast, UInt8.ofNat_toNat] at hcv
      have ho0 := hown.alloc (.cells #[.int .u8 s[k].toNat, .int .u8 s[j].toNat] 5)
      have hb0 := hb.alloc hb.size (.cells #[.int .u8 s[k].toNat, .int .u8 s[j].toNat] 5)
      clear hj
      go_region_law
        ((refine step_push_at (wo.heap.size + 1) (by simp) rfl (.tmp 108) (.tmp 120) 25 rfl 9 _ 1 16 info_string Tryd.underlying25 rfl (by decide) (by decide) w.heap.size v _ _ rfl ho0 #[.string ⟨#[s[k], s[j]]⟩] 1 9 rfl ⟨rfl, rfl, rfl, rfl⟩ rfl (by simp [Value.oneCell']) (by omega) hb0.size ?_; intro v' w2 hown2 hgrow hat))
      all_goals
        rw [HC.out] at hown2
        have hb2 := below_push hb0 hb0.size ho0 hgrow
        have ho2 : w2.ownsRow w.heap.size 9 1 v' (k + 1) ((twosTo s (k + 1)).map .string) := by rw [twosTo_succ]; simpa using hown2
        clear g1 g2 hgrow hat hown2 hown ho0 hb0 hcv
        go_wp2_with fail
        go_roundw
        case rel => exact ⟨k + 1, by omega, by go_num, ho2, hb2⟩
        case measure => simp [intOf]; omega
    · obtain rfl : k = s.size := by omega
      go_wp2_with fail
      refine (impl_FormatInt s.size _ (by omega) (by omega) (hp.later hb)).mono ?_; rintro e w1 ⟨rfl, hb1⟩
      have hown1 := own_later hown hb1
      have hb2 := hb.trans (hb1.mono hb.size)
      clear hown hb1 hb
      go_wp2_with fail
      refine (impl_FormatInt s.size _ (by omega) (by omega) (hp.later hb2)).mono ?_; rintro e w3 ⟨rfl, hb3⟩
      have hown3 := own_later hown1 hb3
      have hb4 := hb2.trans (hb3.mono hb2.size)
      clear hown1 hb3 hb2
      go_wp2_with (first | (at_builtin; refine wpList_push rfl (.tmp 123) (.tmp 129) 25 rfl 9 _ 1 16 info_string Tryd.underlying25 rfl (by decide) (by decide) w.heap.size v _ _ rfl hown3 #[.string (formatInt s.size ++ formatInt s.size)] 1 _ rfl rfl (by simp [Value.oneCell']) (by omega) hb4.size ?_))
      rintro v' w5 hown5 hgrow -
      have hb5 := below_push hb4 hb4.size hown3 hgrow
      have ho5 : w5.ownsRow w.heap.size 9 1 v' (twosTo s s.size ++ [formatInt s.size ++ formatInt s.size]).length ((twosTo s s.size ++ [formatInt s.size ++ formatInt s.size]).map .string) := by rw [List.length_append, twosTo_len]; simpa using hown5
      clear hown5 hgrow hown3
      go_wp2_with fail
      go_ret2
      exact ⟨_, rfl, ho5, hb5⟩

theorem may_no {kind : Int} {n : Nat} (h : kind < 1 ∨ 7 < kind ∨ 12 < n) : libMay kind n = false := by simp [libMay]; omega
theorem spec_LibraryAnswer (kind : Int) (s : ByteArray) (w : World) (hs : s.size ≤ 1048576) :
    Calls Tryd.prog 22 #[.int .i64 kind, .string s] w (OwnAns (libAns kind s) (libMay kind s.size) w) := by
  by_cases h : kind < 1 ∨ 7 < kind ∨ 12 < s.size
  · have hm := may_no h
    rw [hm, show libAns kind s = [] by simp [libAns, hm]]
    exact spec_LA0 kind s w hs h
  have hs12 : s.size ≤ 12 := by omega
  obtain rfl | rfl | rfl | rfl | rfl | rfl | rfl : kind = 1 ∨ kind = 2 ∨ kind = 3 ∨ kind = 4 ∨ kind = 5 ∨ kind = 6 ∨ kind = 7 := by omega
  · have hm : libMay 1 s.size = true := by simp [libMay, hs12]
    rw [hm, show libAns 1 s = wordsOf s by simp [libAns, hm]]
    exact spec_LA1 s w hs12
  · by_cases h5 : 5 < s.size
    · have hm : libMay 2 s.size = false := by simp [libMay, h5]
      rw [hm, show libAns 2 s = [] by simp [libAns, hm]]
      exact spec_LA2n s w hs12 h5
    · have hm : libMay 2 s.size = true := by simp [libMay, hs12]; omega
      rw [hm, show libAns 2 s = permutationsOf s by simp [libAns, hm]]
      exact spec_LA2 s w hs12 h5
  · by_cases h5 : s.size < 1 ∨ 7 < s.size
    · have hm : libMay 3 s.size = false := by unfold libMay; rcases h5 with h | h <;> simp [h]
      rw [hm, show libAns 3 s = [] by simp [libAns, hm]]
      exact spec_LA3n s w hs12 h5
    · have hm : libMay 3 s.size = true := by unfold libMay; rw [decide_eq_true hs12, decide_eq_false (show ¬ s.size < 1 by omega), decide_eq_false (show ¬ 7 < s.size by omega)]; rfl
      rw [hm, show libAns 3 s = [formatInt (queensCount s.size)] by simp [libAns, hm]]
      exact spec_LA3 s w (by omega) (by omega)
  · have hm : libMay 4 s.size = true := by simp [libMay, hs12]
    rw [hm, show libAns 4 s = (primesUpTo s.size).map formatInt by simp [libAns, hm]]
    exact spec_LA4 s w hs12
  · have hm : libMay 5 s.size = true := by simp [libMay, hs12]
    rw [hm, show libAns 5 s = [yesNo (bal 0 s.data.toList)] by simp [libAns, hm]]
    exact spec_LA5 s w hs12
  · have hm : libMay 6 s.size = true := by simp [libMay, hs12]
    rw [hm, show libAns 6 s = [formatOpt (arithmeticOf s)] by simp [libAns, hm]]
    exact spec_LA6 s w hs12
  · have hm : libMay 7 s.size = true := by simp [libMay, hs12]
    rw [hm, show libAns 7 s = twosTo s s.size ++ [formatInt s.size ++ formatInt s.size] by simp [libAns, hm]]
    exact spec_LA7 s w hs12
theorem impl_LibraryAnswer (kind : Int) (s : ByteArray) (w : World) (hs : s.size ≤ 1048576) (hsh : w.ShapedOpen Tryd.prog) (hp : PowTab w) :
    Calls Tryd.prog 23 #[.int .i64 kind, .string s] w (OwnAns (libAns kind s) (libMay kind s.size) w) := by
  by_cases h : kind < 1 ∨ 7 < kind ∨ 12 < s.size
  · have hm := may_no h
    rw [hm, show libAns kind s = [] by simp [libAns, hm]]
    exact impl_LA0 kind s w hs h
  have hs12 : s.size ≤ 12 := by omega
  obtain rfl | rfl | rfl | rfl | rfl | rfl | rfl : kind = 1 ∨ kind = 2 ∨ kind = 3 ∨ kind = 4 ∨ kind = 5 ∨ kind = 6 ∨ kind = 7 := by omega
  · have hm : libMay 1 s.size = true := by simp [libMay, hs12]
    rw [hm, show libAns 1 s = wordsOf s by simp [libAns, hm]]
    exact impl_LA1 s w hs12 hsh hp
  · by_cases h5 : 5 < s.size
    · have hm : libMay 2 s.size = false := by simp [libMay, h5]
      rw [hm, show libAns 2 s = [] by simp [libAns, hm]]
      exact impl_LA2n s w hs12 h5 hsh hp
    · have hm : libMay 2 s.size = true := by simp [libMay, hs12]; omega
      rw [hm, show libAns 2 s = permutationsOf s by simp [libAns, hm]]
      exact impl_LA2 s w hs12 h5 hsh hp
  · by_cases h1 : s.size < 1
    · have hm : libMay 3 s.size = false := by unfold libMay; simp [h1]
      rw [hm, show libAns 3 s = [] by simp [libAns, hm]]
      exact impl_LA3a s w hs12 h1 hsh hp
    by_cases h7 : 7 < s.size
    · have hm : libMay 3 s.size = false := by unfold libMay; simp [h7]
      rw [hm, show libAns 3 s = [] by simp [libAns, hm]]
      exact impl_LA3b s w hs12 h7 hsh hp
    · have hm : libMay 3 s.size = true := by unfold libMay; rw [decide_eq_true hs12, decide_eq_false h1, decide_eq_false h7]; rfl
      rw [hm, show libAns 3 s = [formatInt (queensCount s.size)] by simp [libAns, hm]]
      exact impl_LA3 s w h1 h7 hsh hp
  · have hm : libMay 4 s.size = true := by simp [libMay, hs12]
    rw [hm, show libAns 4 s = (primesUpTo s.size).map formatInt by simp [libAns, hm]]
    exact impl_LA4 s w hs12 hsh hp
  · have hm : libMay 5 s.size = true := by simp [libMay, hs12]
    rw [hm, show libAns 5 s = [yesNo (bal 0 s.data.toList)] by simp [libAns, hm]]
    cases hb : bal 0 s.data.toList with
    | true => exact impl_LA5t s w hs12 hb hsh hp
    | false => exact impl_LA5f s w hs12 hb hsh hp
  · have hm : libMay 6 s.size = true := by simp [libMay, hs12]
    rw [hm, show libAns 6 s = [formatOpt (arithmeticOf s)] by simp [libAns, hm]]
    cases ha : arithmeticOf s with
    | none => exact impl_LA6n s w hs12 ha hsh hp
    | some v => exact impl_LA6s s w hs12 v ha hsh hp
  · have hm : libMay 7 s.size = true := by simp [libMay, hs12]
    rw [hm, show libAns 7 s = twosTo s s.size ++ [formatInt s.size ++ formatInt s.size] by simp [libAns, hm]]
    exact impl_LA7 s w hs12 hsh hp
theorem libAns_len (kind : Int) (s : ByteArray) (hs : s.size ≤ 1048576) : (libAns kind s).length ≤ 1048577 := by
  have h1 := wordsOf_len s hs
  have h2 := permutationsOf_len s hs
  have h3 := primes_len s.size
  unfold libAns
  split
  · simp
  · repeat (first | split | (simp [twosTo_len]; try omega) | omega)
end Go.Proofs.YtgkgoofapgabhaaDoor
