/- foldBlock of the program. -/
import Derived.Test.YtjeomamdlmoghaaGreatDoorQ00
import Derived.Test.YtjeomamdlmoghaaGreatDoorQSq
import Derived.Test.YtjeomamdlmoghaaGreatDoorQ05
import Derived.Test.YtjeomamdlmoghaaGreatDoorQ10
import Derived.Test.YtjeomamdlmoghaaGreatDoorQ27
set_option maxRecDepth 100000
set_option maxHeartbeats 8000000
set_option linter.unusedVariables false
set_option linter.unusedSimpArgs false
section
namespace Go.Proofs.YtjeomamdlmoghaaGreatDoor
open Go.RowKit
def GivesR (lo : Nat) (c : CoreT) (w : World) (e : Ending) (w' : World) : Prop := ∃ cs : List Value, e = .returned (.agg cs.toArray) ∧ OwnR w' lo w'.heap.size c.dats cs ∧ Below w.heap.size w w'
theorem foldBlock_one {c x : CoreT} (h : keepL c.kids.length 0 c.kids = [x]) : foldBlock c = x := by unfold foldBlock; rw [h]
theorem foldBlock_many {c : CoreT} {l : List CoreT} (h : keepL c.kids.length 0 c.kids = l) (hl : ¬ l.length = 1) : foldBlock c = c.with l := by
 unfold foldBlock; rw [h]
 match l with
 | [] => rfl
 | [x] => exact absurd rfl hl
 | x :: y :: l => rfl
theorem impl_foldBlock (c : CoreT) (A : Option Addr) (n : Nat) (w : World) (lo : Nat) (hlo : lo ≤ w.heap.size) (ho : OwnR w lo w.heap.size c.dats [Value.int .i64 c.kind, .int .i64 c.op, .int .i64 c.number, .int .i64 c.line, .string c.text, .slice A c.kids.length n]) (hl : c.kids.length ≤ 1048576) :
 Calls Tryz.prog 53 #[.agg #[.int .i64 c.kind, .int .i64 c.op, .int .i64 c.number, .int .i64 c.line, .string c.text, .slice A c.kids.length n]] w (GivesR lo (foldBlock c) w) := by
 obtain ⟨F, ho, hnd, hF⟩ := ho
 obtain ⟨A', n', F', rfl, he, hk⟩ := CoreT.ownOut ho
 have he' : Value.slice A c.kids.length n = .slice A' c.kids.length n' := by have := congrArg (fun l => l[5]?) he; simpa using this
 injection he' with e1 e2 e3
 subst e1 e3
 clear he e2
 obtain ⟨t, ls, F', hrow, rfl, hels⟩ := hk.row_
 have hnd' := (List.nodup_append.1 hnd).2.1
 have hF' : ∀ g ∈ F', lo ≤ g ∧ g < w.heap.size := fun g hg => hF g (List.mem_append_right _ hg)
 clear ho hk hnd hF
 obtain ⟨bk, br, B0⟩ := boxes2 w 45 #[.int .i64 c.kind, .int .i64 c.op, .int .i64 c.number, .int .i64 c.line, .string c.text, .slice A c.kids.length n] 45 #[.int .i64 0, .int .i64 0, .int .i64 0, .int .i64 0, .string ⟨#[]⟩, .slice none 0 0]
 go_enter Tryz.func53, Tryz.ntmps53
 go_wp2_with fail
 have own0 := World.ownsRow_made (base := w.heap.size + 2) (e := 45) (size := 6) ((w.alloc (.cells #[.int .i64 c.kind, .int .i64 c.op, .int .i64 c.number, .int .i64 c.line, .string c.text, .slice A c.kids.length n] 45)).alloc (.cells #[.int .i64 0, .int .i64 0, .int .i64 0, .int .i64 0, .string ⟨#[]⟩, .slice none 0 0] 45)) #[] 0 (by simp) (by unfold maxLen; omega) rfl
 have B1 : Below w.heap.size w (((w.alloc (.cells #[.int .i64 c.kind, .int .i64 c.op, .int .i64 c.number, .int .i64 c.line, .string c.text, .slice A c.kids.length n] 45)).alloc (.cells #[.int .i64 0, .int .i64 0, .int .i64 0, .int .i64 0, .string ⟨#[]⟩, .slice none 0 0] 45)).alloc (.cells #[] 45)) := B0.alloc (by simp; omega) _
 have P0 : Hid (Pick w.heap.size (w.heap.size + 2) lo 45 (((w.alloc (.cells #[.int .i64 c.kind, .int .i64 c.op, .int .i64 c.number, .int .i64 c.line, .string c.text, .slice A c.kids.length n] 45)).alloc (.cells #[.int .i64 0, .int .i64 0, .int .i64 0, .int .i64 0, .string ⟨#[]⟩, .slice none 0 0] 45)).alloc (.cells #[] 45)) c.kids ls 0 [] (.slice (some ⟨w.heap.size + 2, 0, none⟩) 0 0) []) := Pick.start (hels.kept fun g hg => B1.block g (hF' g hg).2) hnd' hF' (by simpa using own0)
 have bk0 := bk.alloc (.cells #[] 45)
 have br0 := br.alloc (.cells #[] 45)
 have HP : Hid (keepL c.kids.length 0 c.kids = [] ++ keepL c.kids.length 0 (c.kids.drop 0)) := by show _ = _; simp
 clear own0 hels hnd' hF' bk br B0
 go_loopw [3, 14] (fun v i wr => ∃ (k : Nat) (l' : List CoreT) (vs : List Value), k ≤ c.kids.length ∧ i = .int .i64 k ∧ Hid (Pick w.heap.size (w.heap.size + 2) lo 45 wr c.kids ls k l' v vs) ∧ Hid (keepL c.kids.length 0 c.kids = l' ++ keepL c.kids.length k (c.kids.drop k)) ∧ l'.length ≤ k ∧ Below w.heap.size w wr ∧ Blk wr w.heap.size 45 #[.int .i64 c.kind, .int .i64 c.op, .int .i64 c.number, .int .i64 c.line, .string c.text, .slice A c.kids.length n] ∧ Blk wr (w.heap.size + 1) 45 #[.int .i64 0, .int .i64 0, .int .i64 0, .int .i64 0, .string ⟨#[]⟩, .slice none 0 0] ∧ w.heap.size + 3 ≤ wr.heap.size) (fun _ i _ => c.kids.length - (intOf i).toNat)
 case atStart => exact ⟨0, [], [], Nat.zero_le _, rfl, P0, HP, Nat.le_refl _, B1, bk0, br0, by simp⟩
 case round =>
  clear P0 HP B1 bk0 br0
  obtain ⟨k, l', vs, hkl, rfl, hP, hK, hlk, B1, bk, br, hsz⟩ := hrel
  obtain ⟨cbk, lbk, fbk⟩ := bk.all
  obtain ⟨cbr, lbr, fbr⟩ := br.all
  by_cases hlt : k < c.kids.length
  ·obtain ⟨x, hx⟩ : ∃ x, c.kids[k]? = some x := ⟨_, List.getElem?_eq_getElem hlt⟩
   obtain ⟨va, Ax, nx, vb, hls, hva⟩ := hP.out.at_ hx
   obtain ⟨g, cap, hv, -⟩ := hrow.form (by omega)
   injection hv with hv1 hv2 hv3
   subst hv1 hv3
   clear hv2
   have hrw := own_list (own_later hrow B1) hls
   have q0 : wr.cell? ⟨g, k * 6, none⟩ = some (.int .i64 x.kind) := by simpa using own_mid hrw hva (i := 0) (by omega) rfl
   have q1 : wr.cell? ⟨g, k * 6 + 1, none⟩ = some (.int .i64 x.op) := own_mid hrw hva (i := 1) (by omega) rfl
   have q2 : wr.cell? ⟨g, k * 6 + 2, none⟩ = some (.int .i64 x.number) := own_mid hrw hva (i := 2) (by omega) rfl
   have q3 : wr.cell? ⟨g, k * 6 + 3, none⟩ = some (.int .i64 x.line) := own_mid hrw hva (i := 3) (by omega) rfl
   have q4 : wr.cell? ⟨g, k * 6 + 4, none⟩ = some (.string x.text) := own_mid hrw hva (i := 4) (by omega) rfl
   have q5 : wr.cell? ⟨g, k * 6 + 5, none⟩ = some (.slice Ax x.kids.length nx) := own_mid hrw hva (i := 5) (by omega) rfl
   have HX := Lib.hid hx
   have HLS := Lib.hid (And.intro hls hva)
   have HN := Lib.hid (keepL_next (n := c.kids.length) hx)
   have hown := hP.out.own
   obtain ⟨v0, n0, hvv, -⟩ : ∃ v0 n0, u3 = .slice v0 l'.length n0 ∧ True := by obtain ⟨v0, n0, h0, -⟩ := (Rds.of_own hown).shape; exact ⟨v0, n0, h0, trivial⟩
   subst hvv
   have hwn : IntKind.i64.wrap ((c.kids.length : Int) - 1) = (c.kids.length : Int) - 1 := IntWalk.i64_in _ (by omega)
   clear hls hva hx hrw
   have hN := HN.out
   clear HN
   have HN := hN
   clear hN
   have bX : Below wr.heap.size wr (wr.alloc (.cells #[.int .i64 x.kind, .int .i64 x.op, .int .i64 x.number, .int .i64 x.line, .string x.text, .slice Ax x.kids.length nx] 45)) := (Below.refl _ _).alloc (Nat.le_refl _) _
   have bx := Blk.new wr 45 #[.int .i64 x.kind, .int .i64 x.op, .int .i64 x.number, .int .i64 x.line, .string x.text, .slice Ax x.kids.length nx]
   have cx := bx.cell
   by_cases hlast : k + 1 = c.kids.length
   ·have ek : ((k : Int) == (c.kids.length : Int) - 1) = true := by simp; omega
    have HKB : Hid (keepB c.kids.length k x = true) := by show _ = _; unfold keepB; rw [decide_eq_true hlast]; rfl
    clear hlast
    rw [if_pos HKB.out] at HN
    have own2 := own_later hown bX
    have hroom : (l'.length + 1) * 72 ≤ 140737488355328 := by omega
    have hbase : w.heap.size + 2 ≤ (wr.alloc (.cells #[.int .i64 x.kind, .int .i64 x.op, .int .i64 x.number, .int .i64 x.line, .string x.text, .slice Ax x.kids.length nx] 45)).heap.size := by have := bX.size; omega
    go_wp2_with (first | (at_builtin; refine wpList_push_at (wr.heap.size + 1) (by simp) rfl (.tmp 33) (.tmp 35) 43 rfl 45 _ 6 72 info_CoreT Tryz.underlying43 rfl (by decide) (by decide) (w.heap.size + 2) _ _ _ rfl own2 #[.int .i64 x.kind, .int .i64 x.op, .int .i64 x.number, .int .i64 x.line, .string x.text, .slice Ax x.kids.length nx] 1 _ rfl rfl (by simp [Value.oneCell']) hroom hbase ?_))
    intro v' w3 own3 hgr hat
    have HP3 := Lib.hid (hP.out.push HX.out HLS.out.1 HLS.out.2 rfl bX (by omega) own3 hgr (by omega))
    have B3 : Below w.heap.size w w3 := (B1.trans (bX.mono B1.size)).grown hgr (by have := bX.size; omega) (fun b hb => by have := (hown.lt b hb).1; omega)
    have bk3 := (bk.below bX lbk).grown hgr (fun e => by have := (hown.lt _ e.symm).1; omega)
    have br3 := (br.below bX lbr).grown hgr (fun e => by have := (hown.lt _ e.symm).1; omega)
    have hs3 : w.heap.size + 3 ≤ w3.heap.size := by have := bX.size; have := hgr.size; omega
    have HK3 : Hid (keepL c.kids.length 0 c.kids = (l' ++ [x]) ++ keepL c.kids.length (k + 1) (c.kids.drop (k + 1))) := by show _ = _; rw [hK.out, HN, List.append_assoc]
    clear own3 hgr hat own2 hown
    go_wp2_with fail
    go_roundw
    case rel => exact ⟨k + 1, l' ++ [x], _, by omega, by go_num, HP3, HK3, by simp; omega, B3, bk3, br3, hs3⟩
    case measure => simp [intOf] <;> omega
   ·have ek : ((k : Int) == (c.kids.length : Int) - 1) = false := by simp; omega
    have HC := Lib.hid (fun W : World => impl_coreLiteral x Ax x.kids.length nx W)
    have HB : Hid (keepB c.kids.length k x = (!litB x && !decide (x.kind = 28))) := by show _ = _; unfold keepB; rw [decide_eq_false hlast]; rfl
    clear hlast
    cases hlx : litB x with
    | true =>
      rw [hlx] at HC HB
      have HKB : Hid (keepB c.kids.length k x = false) := by show _ = _; rw [HB.out]; rfl
      clear hlx HB
      go_wp2_with fail
      refine (HC.out _).mono ?_; rintro e w2 ⟨rfl, hb2⟩
      replace bX := bX.trans (hb2.mono bX.size)
      replace bx := bx.later hb2
      clear hb2 cx q0 q1 q2 q3 q4 q5 cbk fbk cbr fbr
      have cx := bx.cell
      have HKB' : ¬ keepB c.kids.length k x = true := by rw [HKB.out]; decide
      rw [if_neg HKB'] at HN
      have HK3 : Hid (keepL c.kids.length 0 c.kids = l' ++ keepL c.kids.length (k + 1) (c.kids.drop (k + 1))) := by show _ = _; rw [hK.out, HN, List.nil_append]
      have HP3 := Lib.hid ((hP.out.later bX).skip HX.out)
      clear HN HKB' hown
      go_wp2_with fail
      go_roundw
      case rel => exact ⟨k + 1, l', _, by omega, by go_num, HP3, HK3, by omega, B1.trans (bX.mono B1.size), bk.below bX lbk, br.below bX lbr, by have := bX.size; omega⟩
      case measure => simp [intOf] <;> omega
    | false =>
      rw [hlx] at HC HB
      by_cases k28 : x.kind = 28
      ·have e28 : (x.kind != 28) = false := by simp [k28]
       have HKB : Hid (keepB c.kids.length k x = false) := by show _ = _; rw [HB.out, decide_eq_true k28]; rfl
       clear k28
       clear hlx HB
       go_wp2_with fail
       refine (HC.out _).mono ?_; rintro e w2 ⟨rfl, hb2⟩
       replace bX := bX.trans (hb2.mono bX.size)
       replace bx := bx.later hb2
       clear hb2 cx q0 q1 q2 q3 q4 q5 cbk fbk cbr fbr
       have cx := bx.cell
       have HKB' : ¬ keepB c.kids.length k x = true := by rw [HKB.out]; decide
       rw [if_neg HKB'] at HN
       have HK3 : Hid (keepL c.kids.length 0 c.kids = l' ++ keepL c.kids.length (k + 1) (c.kids.drop (k + 1))) := by show _ = _; rw [hK.out, HN, List.nil_append]
       have HP3 := Lib.hid ((hP.out.later bX).skip HX.out)
       clear HN HKB' hown
       go_wp2_with fail
       go_roundw
       case rel => exact ⟨k + 1, l', _, by omega, by go_num, HP3, HK3, by omega, B1.trans (bX.mono B1.size), bk.below bX lbk, br.below bX lbr, by have := bX.size; omega⟩
       case measure => simp [intOf] <;> omega
      ·have e28 : (x.kind != 28) = true := by simpa using k28
       have HKB : Hid (keepB c.kids.length k x = true) := by show _ = _; rw [HB.out, decide_eq_false k28]; rfl
       clear k28
       clear hlx HB
       go_wp2_with fail
       refine (HC.out _).mono ?_; rintro e w2 ⟨rfl, hb2⟩
       replace bX := bX.trans (hb2.mono bX.size)
       replace bx := bx.later hb2
       clear hb2 cx q0 q1 q2 q3 q4 q5 cbk fbk cbr fbr
       have cx := bx.cell
       rw [if_pos HKB.out] at HN
       have own2 := own_later hown bX
       have hroom : (l'.length + 1) * 72 ≤ 140737488355328 := by omega
       have hbase : w.heap.size + 2 ≤ w2.heap.size := by have := bX.size; omega
       go_wp2_with (first | (at_builtin; refine wpList_push_at w2.heap.size (by simp) rfl (.tmp 33) (.tmp 35) 43 rfl 45 _ 6 72 info_CoreT Tryz.underlying43 rfl (by decide) (by decide) (w.heap.size + 2) _ _ _ rfl own2 #[.int .i64 x.kind, .int .i64 x.op, .int .i64 x.number, .int .i64 x.line, .string x.text, .slice Ax x.kids.length nx] 1 _ rfl rfl (by simp [Value.oneCell']) hroom hbase ?_))
       intro v' w3 own3 hgr hat
       have HP3 := Lib.hid (hP.out.push HX.out HLS.out.1 HLS.out.2 rfl bX (by omega) own3 hgr (by omega))
       have B3 : Below w.heap.size w w3 := (B1.trans (bX.mono B1.size)).grown hgr (by have := bX.size; omega) (fun b hb => by have := (hown.lt b hb).1; omega)
       have bk3 := (bk.below bX lbk).grown hgr (fun e => by have := (hown.lt _ e.symm).1; omega)
       have br3 := (br.below bX lbr).grown hgr (fun e => by have := (hown.lt _ e.symm).1; omega)
       have hs3 : w.heap.size + 3 ≤ w3.heap.size := by have := bX.size; have := hgr.size; omega
       have HK3 : Hid (keepL c.kids.length 0 c.kids = (l' ++ [x]) ++ keepL c.kids.length (k + 1) (c.kids.drop (k + 1))) := by show _ = _; rw [hK.out, HN, List.append_assoc]
       clear own3 hgr hat own2 hown
       go_wp2_with fail
       go_roundw
       case rel => exact ⟨k + 1, l' ++ [x], _, by omega, by go_num, HP3, HK3, by simp; omega, B3, bk3, br3, hs3⟩
       case measure => simp [intOf] <;> omega
  ·obtain rfl : k = c.kids.length := by omega
   have HKL : Hid (keepL c.kids.length 0 c.kids = l') := by have h := hK.out; rw [List.drop_length, keepL, List.append_nil] at h; exact h
   have hM := hP.out.made (by omega) (by omega)
   have hown := hP.out.own
   obtain ⟨v0, n0, hvv, -⟩ : ∃ v0 n0, u3 = .slice v0 l'.length n0 ∧ True := by obtain ⟨v0, n0, h0, -⟩ := (Rds.of_own hown).shape; exact ⟨v0, n0, h0, trivial⟩
   subst hvv
   clear hK hlt hown
   by_cases h1 : l'.length = 1
   ·obtain ⟨x, rfl⟩ : ∃ x, l' = [x] := by match l', h1 with | [x], _ => exact ⟨x, rfl⟩
    obtain ⟨g, cap, Ax, nx, hv, hg, hc, hX⟩ := hM.elem (j := 0) rfl
    injection hv with hv1 hv2 hv3
    subst hv1 hv3
    have q0 : wr.cell? ⟨g, 0, none⟩ = some (.int .i64 x.kind) := by simpa using hc 0 _ rfl
    have q1 : wr.cell? ⟨g, 1, none⟩ = some (.int .i64 x.op) := by simpa using hc 1 _ rfl
    have q2 : wr.cell? ⟨g, 2, none⟩ = some (.int .i64 x.number) := by simpa using hc 2 _ rfl
    have q3 : wr.cell? ⟨g, 3, none⟩ = some (.int .i64 x.line) := by simpa using hc 3 _ rfl
    have q4 : wr.cell? ⟨g, 4, none⟩ = some (.string x.text) := by simpa using hc 4 _ rfl
    have q5 : wr.cell? ⟨g, 5, none⟩ = some (.slice Ax x.kids.length nx) := by simpa using hc 5 _ rfl
    have HR := Lib.hid (foldBlock_one HKL.out)
    have HM := Lib.hid hX
    clear hM hX hc h1 hv2
    go_wp2_with fail
    have hF := ((((((br.set_ 0 (.int .i64 x.kind)).set_ 1 (.int .i64 x.op)).set_ 2 (.int .i64 x.number)).set_ 3 (.int .i64 x.line)).set_ 4 (.string x.text)).set_ 5 (.slice Ax x.kids.length nx))
    have cF := hF.cell
    refine bodyPost_ret (v := .agg #[.int .i64 x.kind, .int .i64 x.op, .int .i64 x.number, .int .i64 x.line, .string x.text, .slice Ax x.kids.length nx]) ?_ rfl ⟨(#[Value.int .i64 x.kind, .int .i64 x.op, .int .i64 x.number, .int .i64 x.line, .string x.text, .slice Ax x.kids.length nx] : Array Value).toList, rfl, ?_, ?_⟩
    ·simp [results, Tryz.results53, go_sem, cF]
    ·rw [HR.out]
     exact (((((((HM.out.set_ (p := ⟨w.heap.size + 1, 0, none⟩) (by simp <;> omega) _).set_ (p := ⟨w.heap.size + 1, 1, none⟩) (by simp <;> omega) _).set_ (p := ⟨w.heap.size + 1, 2, none⟩) (by simp <;> omega) _).set_ (p := ⟨w.heap.size + 1, 3, none⟩) (by simp <;> omega) _).set_ (p := ⟨w.heap.size + 1, 4, none⟩) (by simp <;> omega) _).set_ (p := ⟨w.heap.size + 1, 5, none⟩) (by simp <;> omega) _)).weak fun g hg => ⟨hg.1, by simp; exact hg.2.1⟩
    ·repeat' first | with_reducible exact B1 | with_reducible refine Below.setCell ?_ (by first | exact Nat.le_refl _ | omega | (simp; omega) | simp) _
   ·have HR := Lib.hid (foldBlock_many HKL.out h1)
    have e1 : ((l'.length : Int) == 1) = false := by simp; omega
    have HM := Lib.hid hM
    clear hM h1
    go_wp2_with fail
    have hF := (((((((br.far (p := ⟨w.heap.size, 5, none⟩) (by simp) (.slice v0 l'.length n0)).set_ 0 (.int .i64 c.kind)).set_ 1 (.int .i64 c.op)).set_ 2 (.int .i64 c.number)).set_ 3 (.int .i64 c.line)).set_ 4 (.string c.text)).set_ 5 (.slice v0 l'.length n0))
    have cF := hF.cell
    refine bodyPost_ret (v := .agg #[.int .i64 c.kind, .int .i64 c.op, .int .i64 c.number, .int .i64 c.line, .string c.text, .slice v0 l'.length n0]) ?_ rfl ⟨(#[Value.int .i64 c.kind, .int .i64 c.op, .int .i64 c.number, .int .i64 c.line, .string c.text, .slice v0 l'.length n0] : Array Value).toList, rfl, ?_, ?_⟩
    ·simp [results, Tryz.results53, go_sem, cF]
    ·rw [HR.out]
     exact ((((((((HM.out.node (c := c).set_ (p := ⟨w.heap.size, 5, none⟩) (by simp <;> omega) _).set_ (p := ⟨w.heap.size + 1, 0, none⟩) (by simp <;> omega) _).set_ (p := ⟨w.heap.size + 1, 1, none⟩) (by simp <;> omega) _).set_ (p := ⟨w.heap.size + 1, 2, none⟩) (by simp <;> omega) _).set_ (p := ⟨w.heap.size + 1, 3, none⟩) (by simp <;> omega) _).set_ (p := ⟨w.heap.size + 1, 4, none⟩) (by simp <;> omega) _).set_ (p := ⟨w.heap.size + 1, 5, none⟩) (by simp <;> omega) _)).weak fun g hg => ⟨hg.1, by simp; exact hg.2.1⟩
    ·repeat' first | with_reducible exact B1 | with_reducible refine Below.setCell ?_ (by first | exact Nat.le_refl _ | omega | (simp; omega) | simp) _
end Go.Proofs.YtjeomamdlmoghaaGreatDoor
end
