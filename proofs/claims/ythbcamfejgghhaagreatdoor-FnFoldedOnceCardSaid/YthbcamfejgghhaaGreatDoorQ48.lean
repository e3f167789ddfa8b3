/- The operators on literals of the program. The operators on sets, on one literal, of the program. Leaves and literals of the program. For the walks that fold: wh -/
import Derived.Test.YthbcamfejgghhaaGreatDoorQ38
import Derived.Test.YthbcamfejgghhaaGreatDoorQ47
set_option maxRecDepth 100000
set_option maxHeartbeats 8000000
set_option linter.unusedVariables false
set_option linter.unusedSimpArgs false
namespace Go.Proofs.YthbcamfejgghhaaGreatDoor
open Go.IntKind (i64)
open Go.RowKit
theorem aY.form (v : aY) : ∃ k n s l h, v.val = .agg (aD k n 0 s l h) := by cases v <;> exact ⟨_, _, _, _, _, rfl⟩
theorem F4 (n : Int) : mQ n = (.int n, 0) ∨ ∃ k : Int, k ≠ 0 ∧ mQ n = (.null, k) := by
 unfold mQ
 split
 ·exact .inl rfl
 exact .inr ⟨203, aA, rfl⟩
theorem QK (a b : Int) : (∃ n, og a b = (.int n, 0)) ∨ ∃ k : Int, k ≠ 0 ∧ og a b = (.null, k) := by
 unfold og
 split
 ·exact .inr ⟨201, aA, rfl⟩
 split
 ·exact .inl ⟨_, rfl⟩
 split
 ·exact .inl ⟨_, rfl⟩
 split
 ·exact .inl ⟨_, rfl⟩
 split
 ·exact .inr ⟨203, aA, rfl⟩
 exact .inl ⟨_, rfl⟩
theorem Md (op a b : Int) : (∃ n, iR op a b = (.int n, 0)) ∨ ∃ k : Int, k ≠ 0 ∧ iR op a b = (.null, k) := by
 unfold iR
 split
 ·rcases F4 (a + b) with h | h
  ·exact .inl ⟨_, h⟩
  exact .inr h
 split
 ·rcases F4 (a - b) with h | h
  ·exact .inl ⟨_, h⟩
  exact .inr h
 split
 ·split
  ·exact .inr ⟨203, aA, rfl⟩
  exact .inl ⟨_, rfl⟩
 split
 ·exact QK a b
 split
 ·exact .inr ⟨201, aA, rfl⟩
 split
 ·exact .inl ⟨_, rfl⟩
 exact .inl ⟨_, rfl⟩
theorem QL (op : Int) (a b : aY) (a0 : a.Ok) (b0 : b.Ok) (w : World) (ht : jw w) (hop : (20 ≤ op ∧ op ≤ 25) ∨ (30 ≤ op ∧ op ≤ 35)) : Calls Tryz.prog 148 #[.int i64 op, a.val, b.val] w (ig (uE op a.toInt b.toInt) w) := by
 have bda : ∀ x, a.toInt = some x → x.natAbs ≤ 999999999999 := fun x h => by have := sw a0 h; omega
 have bdb : ∀ x, b.toInt = some x → x.natAbs ≤ 999999999999 := fun x h => by have := sw b0 h; omega
 have o1 : 20 ≤ op := ah
 have o2 : op ≤ 35 := ah
 obtain ⟨ka, na, sa, la, ha, ea⟩ := a.form
 obtain ⟨kb, nb, sb, lb, hb, eb⟩ := b.form
 have Ca : ∀ W : World, Below w.heap.size w W → Calls Tryz.prog 144 #[a.val] W (Gives (iZ a.toInt) W) := fun W hW => qK a a0 W (ht.later hW)
 have Cb : ∀ W : World, Below w.heap.size w W → Calls Tryz.prog 144 #[b.val] W (Gives (iZ b.toInt) W) := fun W hW => qK b b0 W (ht.later hW)
 generalize hra : a.toInt = ra at *
 rw [ea] at Ca ⊢
 generalize hrb : b.toInt = rb at *
 rw [eb] at Cb ⊢
 cases ra with
 | none =>
   cases rb with
   | none =>
     exact C4
   | some y =>
     exact C4
 | some x =>
   cases rb with
   | none =>
     exact C4
   | some y =>
     have hx := bda x rfl
     have hy := bdb y rfl
     unfold iZ at Ca Cb
     have Ha := lH Ca
     clear Ca
     have Hb := lH Cb
     clear Cb
     by_cases h25 : op ≤ 25
     ·have HR : Hid (uE op (some x) (some y) = iR op x y) := by show _ = _; simp only [uE]; rw [if_pos h25]
      rw [HR.out]
      clear HR
      have HA := lH (fun W : World => BG op x y W hx hy o1 h25)
      rcases Md op x y with ⟨n, hn⟩ | ⟨k, hk, hn⟩
      ·rw [hn] at HA ⊢
       unfold ig gu aY.val
       unfold ig gu aY.val at HA
       obtain ⟨ba, bb, br, B0⟩ := kN w 141 (aD ka na 0 sa la ha) 141 (aD kb nb 0 sb lb hb) 141 (aD 0 0 0 ⟨#[]⟩ 0 0)
       go_in
       go_wp2_with fail
       refine (Ha.out _ B0).mono ?_; rintro e w1 ⟨rfl, hb⟩
       replace hb := gW B0 ba bb br hb
       clear ba bb br
       obtain ⟨B1, ba, cba, lba, fba, bb, cbb, lbb, fbb, br, cbr, lbr, fbr⟩ := hb
       go_wp2_with fail
       refine (Hb.out _ B1).mono ?_; rintro e w2 ⟨rfl, hb⟩
       replace hb := gW B1 ba bb br hb
       try clear cba lba fba cbb lbb fbb cbr lbr fbr
       clear ba bb br
       obtain ⟨B2, ba, cba, lba, fba, bb, cbb, lbb, fbb, br, cbr, lbr, fbr⟩ := hb
       go_wp2_with fail
       refine (HA.out _).mono ?_; rintro e w3 ⟨rfl, hb⟩
       replace hb := gW B2 ba bb br hb
       try clear cba lba fba cbb lbb fbb cbr lbr fbr
       clear ba bb br
       obtain ⟨B3, ba, cba, lba, fba, bb, cbb, lbb, fbb, br, cbr, lbr, fbr⟩ := hb
       go_wp2_with fail
       have hF := ((((((br.aF 0 (.int i64 1)).aF 1 (.int i64 (n))).aF 2 (.int i64 0)).aF 3 (.string aC)).aF 4 (.int i64 0)).aF 5 (.int i64 0))
       exact yE
      rw [hn] at HA ⊢
      unfold ig gu aY.val
      unfold ig gu aY.val at HA
      have fk : (k != 0) = true := by simpa using hk
      obtain ⟨ba, bb, br, B0⟩ := kN w 141 (aD ka na 0 sa la ha) 141 (aD kb nb 0 sb lb hb) 141 (aD 0 0 0 ⟨#[]⟩ 0 0)
      go_in
      go_wp2_with fail
      refine (Ha.out _ B0).mono ?_; rintro e w1 ⟨rfl, hb⟩
      replace hb := gW B0 ba bb br hb
      clear ba bb br
      obtain ⟨B1, ba, cba, lba, fba, bb, cbb, lbb, fbb, br, cbr, lbr, fbr⟩ := hb
      go_wp2_with fail
      refine (Hb.out _ B1).mono ?_; rintro e w2 ⟨rfl, hb⟩
      replace hb := gW B1 ba bb br hb
      try clear cba lba fba cbb lbb fbb cbr lbr fbr
      clear ba bb br
      obtain ⟨B2, ba, cba, lba, fba, bb, cbb, lbb, fbb, br, cbr, lbr, fbr⟩ := hb
      go_wp2_with fail
      refine (HA.out _).mono ?_; rintro e w3 ⟨rfl, hb⟩
      replace hb := gW B2 ba bb br hb
      try clear cba lba fba cbb lbb fbb cbr lbr fbr
      clear ba bb br
      obtain ⟨B3, ba, cba, lba, fba, bb, cbb, lbb, fbb, br, cbr, lbr, fbr⟩ := hb
      go_wp2_with fail
      have hF := ((((((br.aF 0 (.int i64 0)).aF 1 (.int i64 (0))).aF 2 (.int i64 0)).aF 3 (.string aC)).aF 4 (.int i64 0)).aF 5 (.int i64 0))
      exact yE
     have HR : Hid (uE op (some x) (some y) = if uS (op - 30) (xg x y) = true then (.int y, 0) else (.null, -1)) := by show _ = _; simp only [uE]; rw [if_neg h25]
     rw [HR.out]
     clear HR
     have HS := lH (fun W : World => QJ x y W)
     have o3 : 30 ≤ op := ah
     have HH := lH (fun (s : Int) (W : World) => En (op - 30) s W ah ah)
     generalize xg x y = sg at *
     have HH2 := lH (HH.out sg)
     clear HH
     cases hh : uS (op - 30) sg with
     | true =>
       rw [hh] at HH2
       clear hh
       rw [if_pos aA]
       unfold ig gu aY.val
       obtain ⟨ba, bb, br, B0⟩ := kN w 141 (aD ka na 0 sa la ha) 141 (aD kb nb 0 sb lb hb) 141 (aD 0 0 0 ⟨#[]⟩ 0 0)
       go_in
       go_wp2_with fail
       refine (Ha.out _ B0).mono ?_; rintro e w1 ⟨rfl, hb⟩
       replace hb := gW B0 ba bb br hb
       clear ba bb br
       obtain ⟨B1, ba, cba, lba, fba, bb, cbb, lbb, fbb, br, cbr, lbr, fbr⟩ := hb
       go_wp2_with fail
       refine (Hb.out _ B1).mono ?_; rintro e w2 ⟨rfl, hb⟩
       replace hb := gW B1 ba bb br hb
       try clear cba lba fba cbb lbb fbb cbr lbr fbr
       clear ba bb br
       obtain ⟨B2, ba, cba, lba, fba, bb, cbb, lbb, fbb, br, cbr, lbr, fbr⟩ := hb
       go_wp2_with fail
       refine (HS.out _).mono ?_; rintro e wz ⟨rfl, rfl⟩
       obtain ⟨cba, lba, fba⟩ := ba.all
       obtain ⟨cbb, lbb, fbb⟩ := bb.all
       obtain ⟨cbr, lbr, fbr⟩ := br.all
       go_wp2_with fail
       refine (HH2.out _).mono ?_; rintro e wz ⟨rfl, rfl⟩
       obtain ⟨cba, lba, fba⟩ := ba.all
       obtain ⟨cbb, lbb, fbb⟩ := bb.all
       obtain ⟨cbr, lbr, fbr⟩ := br.all
       go_wp2_with fail
       have hF := ((((((br.aF 0 (.int i64 1)).aF 1 (.int i64 (y))).aF 2 (.int i64 0)).aF 3 (.string aC)).aF 4 (.int i64 0)).aF 5 (.int i64 0))
       exact yE
     | false =>
       rw [hh] at HH2
       clear hh
       rw [if_neg aA]
       unfold ig gu aY.val
       obtain ⟨ba, bb, br, B0⟩ := kN w 141 (aD ka na 0 sa la ha) 141 (aD kb nb 0 sb lb hb) 141 (aD 0 0 0 ⟨#[]⟩ 0 0)
       go_in
       go_wp2_with fail
       refine (Ha.out _ B0).mono ?_; rintro e w1 ⟨rfl, hb⟩
       replace hb := gW B0 ba bb br hb
       clear ba bb br
       obtain ⟨B1, ba, cba, lba, fba, bb, cbb, lbb, fbb, br, cbr, lbr, fbr⟩ := hb
       go_wp2_with fail
       refine (Hb.out _ B1).mono ?_; rintro e w2 ⟨rfl, hb⟩
       replace hb := gW B1 ba bb br hb
       try clear cba lba fba cbb lbb fbb cbr lbr fbr
       clear ba bb br
       obtain ⟨B2, ba, cba, lba, fba, bb, cbb, lbb, fbb, br, cbr, lbr, fbr⟩ := hb
       go_wp2_with fail
       refine (HS.out _).mono ?_; rintro e wz ⟨rfl, rfl⟩
       obtain ⟨cba, lba, fba⟩ := ba.all
       obtain ⟨cbb, lbb, fbb⟩ := bb.all
       obtain ⟨cbr, lbr, fbr⟩ := br.all
       exact Kj
theorem NF (op : Int) (a b : aY) (a0 : a.Ok) (b0 : b.Ok) (w : World) (ht : jw w) (hop : (40 ≤ op ∧ op ≤ 45) ∨ op = 50) : Calls Tryz.prog 148 #[.int i64 op, a.val, b.val] w (ig (om op a.toText b.toText) w) := by
 have bda : ∀ x, a.toText = some x → x.size ≤ 120 := fun x h => Aw a0 h
 have bdb : ∀ x, b.toText = some x → x.size ≤ 120 := fun x h => Aw b0 h
 have o1 : 40 ≤ op := ah
 have o2 : op ≤ 50 := ah
 have e46 : (op == 46) = false := bF ah
 have e47 : (op == 47) = false := bF ah
 obtain ⟨ka, na, sa, la, ha, ea⟩ := a.form
 obtain ⟨kb, nb, sb, lb, hb, eb⟩ := b.form
 have Ca : ∀ W : World, Below w.heap.size w W → Calls Tryz.prog 180 #[a.val] W (Gives (rU a.toText) W) := fun W hW => jN a a0 W (ht.later hW)
 have Cb : ∀ W : World, Below w.heap.size w W → Calls Tryz.prog 180 #[b.val] W (Gives (rU b.toText) W) := fun W hW => jN b b0 W (ht.later hW)
 generalize hra : a.toText = ra at *
 rw [ea] at Ca ⊢
 generalize hrb : b.toText = rb at *
 rw [eb] at Cb ⊢
 cases ra with
 | none =>
   cases rb with
   | none =>
     exact CZ
   | some y =>
     exact CZ
 | some x =>
   cases rb with
   | none =>
     exact CZ
   | some y =>
     have hx := bda x rfl
     have hy := bdb y rfl
     unfold rU at Ca Cb
     have Ha := lH Ca
     clear Ca
     have Hb := lH Cb
     clear Cb
     rcases hop with hop | hop
     ·obtain ⟨o3, o4⟩ := hop
      have e50 : (op == 50) = false := bF ah
      have HR : Hid (om op (some x) (some y) = if uS (op - 40) (TH x y) = true then (.text y, 0) else (.null, -1)) := by show _ = _; simp only [om]; rw [if_neg ah]
      rw [HR.out]
      clear HR
      have HS := lH (fun W : World => zG x y W ah ah)
      have HH := lH (fun (s : Int) (W : World) => En (op - 40) s W ah ah)
      generalize TH x y = sg at *
      have HH2 := lH (HH.out sg)
      clear HH
      cases hh : uS (op - 40) sg with
      | true =>
        rw [hh] at HH2
        clear hh
        rw [if_pos aA]
        unfold ig gu aY.val
        obtain ⟨ba, bb, br, B0⟩ := kN w 141 (aD ka na 0 sa la ha) 141 (aD kb nb 0 sb lb hb) 141 (aD 0 0 0 ⟨#[]⟩ 0 0)
        go_in
        go_wp2_with fail
        refine (Ha.out _ B0).mono ?_; rintro e w1 ⟨rfl, hb⟩
        replace hb := gW B0 ba bb br hb
        clear ba bb br
        obtain ⟨B1, ba, cba, lba, fba, bb, cbb, lbb, fbb, br, cbr, lbr, fbr⟩ := hb
        go_wp2_with fail
        refine (Hb.out _ B1).mono ?_; rintro e w2 ⟨rfl, hb⟩
        replace hb := gW B1 ba bb br hb
        try clear cba lba fba cbb lbb fbb cbr lbr fbr
        clear ba bb br
        obtain ⟨B2, ba, cba, lba, fba, bb, cbb, lbb, fbb, br, cbr, lbr, fbr⟩ := hb
        go_wp2_with fail
        refine (HS.out _).mono ?_; rintro e w3 ⟨rfl, hb⟩
        replace hb := gW B2 ba bb br hb
        try clear cba lba fba cbb lbb fbb cbr lbr fbr
        clear ba bb br
        obtain ⟨B3, ba, cba, lba, fba, bb, cbb, lbb, fbb, br, cbr, lbr, fbr⟩ := hb
        go_wp2_with fail
        refine (HH2.out _).mono ?_; rintro e wz ⟨rfl, rfl⟩
        obtain ⟨cba, lba, fba⟩ := ba.all
        obtain ⟨cbb, lbb, fbb⟩ := bb.all
        obtain ⟨cbr, lbr, fbr⟩ := br.all
        go_wp2_with fail
        have hF := ((((((br.aF 0 (.int i64 2)).aF 1 (.int i64 (0))).aF 2 (.int i64 0)).aF 3 (.string y)).aF 4 (.int i64 0)).aF 5 (.int i64 0))
        exact yE
      | false =>
        rw [hh] at HH2
        clear hh
        rw [if_neg aA]
        unfold ig gu aY.val
        obtain ⟨ba, bb, br, B0⟩ := kN w 141 (aD ka na 0 sa la ha) 141 (aD kb nb 0 sb lb hb) 141 (aD 0 0 0 ⟨#[]⟩ 0 0)
        go_in
        go_wp2_with fail
        refine (Ha.out _ B0).mono ?_; rintro e w1 ⟨rfl, hb⟩
        replace hb := gW B0 ba bb br hb
        clear ba bb br
        obtain ⟨B1, ba, cba, lba, fba, bb, cbb, lbb, fbb, br, cbr, lbr, fbr⟩ := hb
        go_wp2_with fail
        refine (Hb.out _ B1).mono ?_; rintro e w2 ⟨rfl, hb⟩
        replace hb := gW B1 ba bb br hb
        try clear cba lba fba cbb lbb fbb cbr lbr fbr
        clear ba bb br
        obtain ⟨B2, ba, cba, lba, fba, bb, cbb, lbb, fbb, br, cbr, lbr, fbr⟩ := hb
        go_wp2_with fail
        refine (HS.out _).mono ?_; rintro e w3 ⟨rfl, hb⟩
        replace hb := gW B2 ba bb br hb
        try clear cba lba fba cbb lbb fbb cbr lbr fbr
        clear ba bb br
        obtain ⟨B3, ba, cba, lba, fba, bb, cbb, lbb, fbb, br, cbr, lbr, fbr⟩ := hb
        exact Kj
     subst hop
     have HC := lH (fun W : World => AY x y W hx hy)
     by_cases hq : x.size + y.size ≤ 120
     ·have HR : Hid (om 50 (some x) (some y) = (.text (x ++ y), 0)) := by show _ = _; simp only [om]; rw [if_pos trivial, if_pos hq]
      rw [HR.out]
      rw [if_pos hq, dT hq] at HC
      clear HR hq
      unfold ig gu aY.val
      obtain ⟨ba, bb, br, B0⟩ := kN w 141 (aD ka na 0 sa la ha) 141 (aD kb nb 0 sb lb hb) 141 (aD 0 0 0 ⟨#[]⟩ 0 0)
      go_in
      go_wp2_with fail
      refine (Ha.out _ B0).mono ?_; rintro e w1 ⟨rfl, hb⟩
      replace hb := gW B0 ba bb br hb
      clear ba bb br
      obtain ⟨B1, ba, cba, lba, fba, bb, cbb, lbb, fbb, br, cbr, lbr, fbr⟩ := hb
      go_wp2_with fail
      refine (Hb.out _ B1).mono ?_; rintro e w2 ⟨rfl, hb⟩
      replace hb := gW B1 ba bb br hb
      try clear cba lba fba cbb lbb fbb cbr lbr fbr
      clear ba bb br
      obtain ⟨B2, ba, cba, lba, fba, bb, cbb, lbb, fbb, br, cbr, lbr, fbr⟩ := hb
      go_wp2_with fail
      refine (HC.out _).mono ?_; rintro e wz ⟨rfl, rfl⟩
      obtain ⟨cba, lba, fba⟩ := ba.all
      obtain ⟨cbb, lbb, fbb⟩ := bb.all
      obtain ⟨cbr, lbr, fbr⟩ := br.all
      go_wp2_with fail
      have hF := ((((((br.aF 0 (.int i64 2)).aF 1 (.int i64 (0))).aF 2 (.int i64 0)).aF 3 (.string (x ++ y))).aF 4 (.int i64 0)).aF 5 (.int i64 0))
      exact yE
     have HR : Hid (om 50 (some x) (some y) = (.null, 302)) := by show _ = _; simp only [om]; rw [if_pos trivial, if_neg hq]
     rw [HR.out]
     rw [if_neg hq, dF hq] at HC
     clear HR hq
     unfold ig gu aY.val
     obtain ⟨ba, bb, br, B0⟩ := kN w 141 (aD ka na 0 sa la ha) 141 (aD kb nb 0 sb lb hb) 141 (aD 0 0 0 ⟨#[]⟩ 0 0)
     go_in
     go_wp2_with fail
     refine (Ha.out _ B0).mono ?_; rintro e w1 ⟨rfl, hb⟩
     replace hb := gW B0 ba bb br hb
     clear ba bb br
     obtain ⟨B1, ba, cba, lba, fba, bb, cbb, lbb, fbb, br, cbr, lbr, fbr⟩ := hb
     go_wp2_with fail
     refine (Hb.out _ B1).mono ?_; rintro e w2 ⟨rfl, hb⟩
     replace hb := gW B1 ba bb br hb
     try clear cba lba fba cbb lbb fbb cbr lbr fbr
     clear ba bb br
     obtain ⟨B2, ba, cba, lba, fba, bb, cbb, lbb, fbb, br, cbr, lbr, fbr⟩ := hb
     go_wp2_with fail
     refine (HC.out _).mono ?_; rintro e wz ⟨rfl, rfl⟩
     exact JZ
theorem QM {a b : aY} (h : a = b) : qC 46 a b = (b, 0) := by unfold qC; simp [h]
theorem zO {a b : aY} (h : ¬ a = b) : qC 46 a b = (.null, -1) := by unfold qC; simp [h]
theorem QN {a b : aY} (h : a = b) : qC 47 a b = (.null, -1) := by unfold qC; simp [h]
theorem zP {a b : aY} (h : ¬ a = b) : qC 47 a b = (b, 0) := by unfold qC; simp [h]
theorem Eo {op : Int} (ho : op = 46 ∨ op = 47) (a b : aY) (w : World) : Calls Tryz.prog 148 #[.int i64 op, a.val, b.val] w (ig (qC op a b) w) := by
 obtain ⟨ka, na, sa, la, ha, ea⟩ := a.form
 obtain ⟨kb, nb, sb, lb, hb, eb⟩ := b.form
 have HN : ¬ (Value.agg (aD ka na 0 sa la ha) = Value.agg (aD kb nb 0 sb lb hb)) → ¬ a = b := fun h e => h (by rw [← ea, ← eb, e])
 rcases ho with rfl | rfl
 all_goals
  by_cases ek : ka = kb
  ·subst ek
   by_cases en : na = nb
   ·subst en
    by_cases es : sa = sb
    ·subst es
     by_cases el : la = lb
     ·subst el
      by_cases eh : ha = hb
      ·subst eh
       first | rw [QM (aY.val_inj (ea.trans eb.symm))] | rw [QN (aY.val_inj (ea.trans eb.symm))]
       clear HN
       exact Gb
      have HE : ¬ a = b := HN (fun h => by simp [eh] at h)
      exact C5
     have HE : ¬ a = b := HN (fun h => by simp [el] at h)
     exact C5
    have HE : ¬ a = b := HN (fun h => by simp [es] at h)
    first | rw [zO HE] | rw [zP HE]
    clear HE HN
    have es2 := GD es
    exact Gb
   have HE : ¬ a = b := HN (fun h => by simp [en] at h)
   exact C5
  have HE : ¬ a = b := HN (fun h => by simp [ek] at h)
  first | rw [zO HE] | rw [zP HE]
  clear HE HN
  unfold ig gu
  rw [ea, eb]
  try simp only [aY.val]
  go_in
  go_wp2_with fail
  refine bodyPost_ret ?_ rfl ⟨rfl, ?_⟩
  ·simp [results, Tryz.results148, go_sem]
  exact ji
theorem wG (x : cB) : Ld (some x) = .tuple #[.agg (aL x.lo.toInt x.hi.toInt), .bool true] := rfl
theorem wH : Ld none = .tuple #[.agg (aL 0 0), .bool false] := rfl
theorem QO (op : Int) (a b : aY) (a0 : a.Ok) (b0 : b.Ok) (w : World) (ht : jw w) (hop : op = 52 ∨ op = 53 ∨ op = 54) : Calls Tryz.prog 148 #[.int i64 op, a.val, b.val] w (ig (qB op a.mO b.mO) w) := by
 obtain ⟨ka, na, sa, la, ha, ea⟩ := a.form
 obtain ⟨kb, nb, sb, lb, hb, eb⟩ := b.form
 have Ca : ∀ W : World, Below w.heap.size w W → Calls Tryz.prog 142 #[a.val] W (Gives (Ld a.mO) W) := fun W hW => vF a a0 W (ht.later hW)
 have Cb : ∀ W : World, Below w.heap.size w W → Calls Tryz.prog 142 #[b.val] W (Gives (Ld b.mO) W) := fun W hW => vF b b0 W (ht.later hW)
 generalize hra : a.mO = ra at *
 rw [ea] at Ca ⊢
 generalize hrb : b.mO = rb at *
 rw [eb] at Cb ⊢
 cases ra with
 | none =>
   cases rb with
   | none =>
     rw [wH] at Ca Cb
     have Ha := lH Ca
     clear Ca
     have Hb := lH Cb
     clear Cb
     unfold ig gu qB aY.val
     obtain rfl | rfl | rfl := hop
     ·exact CY
     ·exact CY
     exact CY
   | some y =>
     rw [wH] at Ca
     rw [wG] at Cb
     have Ha := lH Ca
     clear Ca
     have Hb := lH Cb
     clear Cb
     unfold ig gu qB aY.val
     obtain rfl | rfl | rfl := hop
     ·exact Mw
     ·exact Mw
     exact Mw
 | some x =>
   cases rb with
   | none =>
     rw [wH] at Cb
     rw [wG] at Ca
     have Ha := lH Ca
     clear Ca
     have Hb := lH Cb
     clear Cb
     unfold ig gu qB aY.val
     obtain rfl | rfl | rfl := hop
     ·exact CX
     ·exact CX
     exact CX
   | some y =>
     rw [wG] at Ca Cb
     have Ha := lH Ca
     clear Ca
     have Hb := lH Cb
     clear Cb
     obtain rfl | rfl | rfl := hop
     ·have HR : Hid (qB 52 (some x) (some y) = (.set (x.or_ y), 0)) := by show _ = _; simp [qB]
      rw [HR.out]
      clear HR
      have HU : Hid (∀ W : World, Calls Tryz.prog 188 #[.agg (aL x.lo.toInt x.hi.toInt), .agg (aL y.lo.toInt y.hi.toInt)] W fun e w' => e = .returned (.agg (aL ((x.or_ y).lo.toInt) ((x.or_ y).hi.toInt))) ∧ Below W.heap.size W w') := fun W => BF x y W
      unfold ig gu aY.val
      generalize x.or_ y = z at *
      exact Mt
     ·have HR : Hid (qB 53 (some x) (some y) = (.set (x.Qk y), 0)) := by show _ = _; simp [qB]
      rw [HR.out]
      clear HR
      have HU : Hid (∀ W : World, Calls Tryz.prog 189 #[.agg (aL x.lo.toInt x.hi.toInt), .agg (aL y.lo.toInt y.hi.toInt)] W fun e w' => e = .returned (.agg (aL ((x.Qk y).lo.toInt) ((x.Qk y).hi.toInt))) ∧ Below W.heap.size W w') := fun W => yj x y W
      unfold ig gu aY.val
      generalize x.Qk y = z at *
      exact Mt
     have HR : Hid (qB 54 (some x) (some y) = (.set (x.Qj y), 0)) := by show _ = _; simp [qB]
     rw [HR.out]
     clear HR
     have HU : Hid (∀ W : World, Calls Tryz.prog 190 #[.agg (aL x.lo.toInt x.hi.toInt), .agg (aL y.lo.toInt y.hi.toInt)] W fun e w' => e = .returned (.agg (aL ((x.Qj y).lo.toInt) ((x.Qj y).hi.toInt))) ∧ Below W.heap.size W w') := fun W => wT x y W
     unfold ig gu aY.val
     generalize x.Qj y = z at *
     exact Mt
theorem nN (v : aY) (hv : v.Ok) (w : World) : Calls Tryz.prog 141 #[v.val] w (Gives (.bool true) w) := by
 cases v with
 | null =>
   unfold aY.val
   obtain ⟨ba, B0⟩ := dQ w 141 (aD 0 0 0 ⟨#[]⟩ 0 0)
   exact BO
 | int n =>
   have h1 : -999999999999 ≤ n := hv.1
   have h2 : n ≤ 999999999999 := hv.2
   unfold aY.val
   obtain ⟨ba, B0⟩ := dQ w 141 (aD 1 n 0 ⟨#[]⟩ 0 0)
   exact BO
 | text s =>
   have h1 : s.size ≤ 120 := hv
   unfold aY.val
   obtain ⟨ba, B0⟩ := dQ w 141 (aD 2 0 0 s 0 0)
   exact BO
 | set c =>
   unfold aY.val
   obtain ⟨ba, B0⟩ := dQ w 141 (aD 3 0 0 ⟨#[]⟩ c.lo.toInt c.hi.toInt)
   exact BO
theorem QS {v : aY} {c : cB} (h : v.mO = some c) : unR 6 v = (.set c.Ql, 0) := by unfold unR; simp [h]
theorem QT {v : aY} (h : v.mO = none) : unR 6 v = (.null, 104) := by unfold unR; simp [h]
theorem SV {op : Int} {v : aY} {n : Int} (h6 : ¬ op = 6) (h : v.toInt = some n) : unR op v = (.int (if op = 1 then -n else n), 0) := by unfold unR; simp [h, h6]
theorem SY {op : Int} {v : aY} (h6 : ¬ op = 6) (h : v.toInt = none) : unR op v = (.null, 101) := by unfold unR; simp [h, h6]
theorem NG (op : Int) (a : aY) (a0 : a.Ok) (w : World) (ht : jw w) (hop : op = 1 ∨ op = 2 ∨ op = 6) : Calls Tryz.prog 101 #[.int i64 op, a.val] w (ig (unR op a) w) := by
 have HW : ∀ W : World, Calls Tryz.prog 141 #[a.val] W (Gives (.bool true) W) := fun W => nN a a0 W
 by_cases h6 : op = 6
 ·subst h6
  obtain ⟨ka, na, sa, la, ha, ea⟩ := a.form
  have Ca : ∀ W : World, Below w.heap.size w W → Calls Tryz.prog 142 #[a.val] W (Gives (Ld a.mO) W) := fun W hW => vF a a0 W (ht.later hW)
  generalize hra : a.mO = ra at *
  rw [ea] at Ca ⊢
  rw [ea] at HW
  have HWF := lH HW
  clear HW
  cases ra with
  | none =>
    rw [wH] at Ca
    rw [QT hra]
    have Ha := lH Ca
    clear Ca
    unfold ig gu aY.val
    obtain ⟨ba, br, B0⟩ := kK w 141 (aD ka na 0 sa la ha) 141 (aD 0 0 0 ⟨#[]⟩ 0 0)
    go_in
    go_wp2_with fail
    refine (HWF.out _).mono ?_; rintro e w1 ⟨rfl, hb⟩
    replace hb := lF B0 ba br hb
    clear ba br
    obtain ⟨B1, ba, cba, lba, fba, br, cbr, lbr, fbr⟩ := hb
    go_wp2_with fail
    refine (Ha.out _ B1).mono ?_; rintro e w2 ⟨rfl, hb⟩
    replace hb := lF B1 ba br hb
    try clear cba lba fba cbr lbr fbr
    clear ba br
    obtain ⟨B2, ba, cba, lba, fba, br, cbr, lbr, fbr⟩ := hb
    go_wp2_with fail
    have hF := (((((((br.aF 0 (.int i64 0)).aF 1 (.int i64 (0))).aF 2 (.int i64 0)).aF 3 (.string aC)).aF 4 (.int i64 0)).aF 5 (.int i64 0)).alloc (.cells (aL 0 0) 110))
    exact BS
  | some x =>
    rw [wG] at Ca
    rw [QS hra]
    have Ha := lH Ca
    clear Ca
    have HN : Hid (∀ W : World, Calls Tryz.prog 143 #[.agg (aL x.lo.toInt x.hi.toInt)] W fun e w' => e = .returned (.agg (aL x.Ql.lo.toInt x.Ql.hi.toInt)) ∧ Below W.heap.size W w') := fun W => wU x W
    unfold ig gu aY.val
    skip
    generalize x.Ql = z at *
    obtain ⟨ba, br, B0⟩ := kK w 141 (aD ka na 0 sa la ha) 141 (aD 0 0 0 ⟨#[]⟩ 0 0)
    go_in
    go_wp2_with fail
    refine (HWF.out _).mono ?_; rintro e w1 ⟨rfl, hb⟩
    replace hb := lF B0 ba br hb
    clear ba br
    obtain ⟨B1, ba, cba, lba, fba, br, cbr, lbr, fbr⟩ := hb
    go_wp2_with fail
    refine (Ha.out _ B1).mono ?_; rintro e w2 ⟨rfl, hb⟩
    replace hb := lF B1 ba br hb
    try clear cba lba fba cbr lbr fbr
    clear ba br
    obtain ⟨B2, ba, cba, lba, fba, br, cbr, lbr, fbr⟩ := hb
    go_wp2_with fail
    refine (HN.out _).mono ?_; rintro e w3 ⟨rfl, hb⟩
    have B3 : Below w.heap.size w w3 := (B2.alloc BH _).trans (hb.mono BH)
    try clear cba lba fba
    try clear cbr lbr fbr
    replace ba := ((ba.alloc _)).later hb
    replace br := ((br.alloc _)).later hb
    clear hb
    obtain ⟨cba, lba, fba⟩ := ba.all
    obtain ⟨cbr, lbr, fbr⟩ := br.all
    go_wp2_with fail
    have hF := ((((((br.aF 0 (.int i64 3)).aF 1 (.int i64 (0))).aF 2 (.int i64 0)).aF 3 (.string aC)).aF 4 (.int i64 z.lo.toInt)).aF 5 (.int i64 z.hi.toInt))
    exact BS
 obtain ⟨ka, na, sa, la, ha, ea⟩ := a.form
 have Ca : ∀ W : World, Below w.heap.size w W → Calls Tryz.prog 144 #[a.val] W (Gives (iZ a.toInt) W) := fun W hW => qK a a0 W (ht.later hW)
 generalize hra : a.toInt = ra at *
 rw [ea] at Ca ⊢
 rw [ea] at HW
 have HWF := lH HW
 clear HW
 have bda : ∀ x, ra = some x → x.natAbs ≤ 999999999999 := fun x h => by have := sw a0 (hra.trans h); omega
 have f6 : (op == 6) = false := bF h6
 cases ra with
 | none =>
   unfold iZ at Ca
   rw [SY h6 hra]
   have Ha := lH Ca
   clear Ca
   obtain rfl | rfl : op = 1 ∨ op = 2 := by omega
   ·exact NW
   exact NW
 | some x =>
   have hx := bda x rfl
   unfold iZ at Ca
   rw [SV h6 hra]
   have Ha := lH Ca
   clear Ca
   obtain rfl | rfl : op = 1 ∨ op = 2 := by omega
   ·have HR : (aY.int (if (1 : Int) = 1 then -x else x), (0 : Int)) = (.int (-x), 0) := by rw [if_pos rfl]
    show Calls _ _ _ _ (ig (aY.int (if (1 : Int) = 1 then -x else x), (0 : Int)) w)
    rw [HR]
    unfold ig gu aY.val
    obtain ⟨ba, br, B0⟩ := kK w 141 (aD ka na 0 sa la ha) 141 (aD 0 0 0 ⟨#[]⟩ 0 0)
    go_in
    go_wp2_with fail
    refine (HWF.out _).mono ?_; rintro e w1 ⟨rfl, hb⟩
    replace hb := lF B0 ba br hb
    clear ba br
    obtain ⟨B1, ba, cba, lba, fba, br, cbr, lbr, fbr⟩ := hb
    go_wp2_with fail
    refine (Ha.out _ B1).mono ?_; rintro e w2 ⟨rfl, hb⟩
    replace hb := lF B1 ba br hb
    try clear cba lba fba cbr lbr fbr
    clear ba br
    obtain ⟨B2, ba, cba, lba, fba, br, cbr, lbr, fbr⟩ := hb
    go_wp2_with fail
    have hF := ((((((br.aF 0 (.int i64 1)).aF 1 (.int i64 (-x))).aF 2 (.int i64 0)).aF 3 (.string aC)).aF 4 (.int i64 0)).aF 5 (.int i64 0))
    exact BS
   have HR : (aY.int (if (2 : Int) = 1 then -x else x), (0 : Int)) = (.int (x), 0) := by rw [if_neg aA]
   show Calls _ _ _ _ (ig (aY.int (if (2 : Int) = 1 then -x else x), (0 : Int)) w)
   rw [HR]
   unfold ig gu aY.val
   obtain ⟨ba, br, B0⟩ := kK w 141 (aD ka na 0 sa la ha) 141 (aD 0 0 0 ⟨#[]⟩ 0 0)
   go_in
   go_wp2_with fail
   refine (HWF.out _).mono ?_; rintro e w1 ⟨rfl, hb⟩
   replace hb := lF B0 ba br hb
   clear ba br
   obtain ⟨B1, ba, cba, lba, fba, br, cbr, lbr, fbr⟩ := hb
   go_wp2_with fail
   refine (Ha.out _ B1).mono ?_; rintro e w2 ⟨rfl, hb⟩
   replace hb := lF B1 ba br hb
   try clear cba lba fba cbr lbr fbr
   clear ba br
   obtain ⟨B2, ba, cba, lba, fba, br, cbr, lbr, fbr⟩ := hb
   go_wp2_with fail
   have hF := ((((((br.aF 0 (.int i64 1)).aF 1 (.int i64 (x))).aF 2 (.int i64 0)).aF 3 (.string aC)).aF 4 (.int i64 0)).aF 5 (.int i64 0))
   exact BS
theorem QU {op : Int} {a b : aY} (h1 : 20 ≤ op) (h2 : op ≤ 35) : qC op a b = uE op a.toInt b.toInt := by unfold qC; rw [if_pos ⟨h1, h2⟩]
theorem NH {op : Int} {a b : aY} (h : (40 ≤ op ∧ op ≤ 45) ∨ op = 50) : qC op a b = om op a.toText b.toText := by unfold qC; rw [if_neg ah, if_neg ah, if_pos h]
theorem QV {op : Int} {a b : aY} (h : op = 52 ∨ op = 53 ∨ op = 54) : qC op a b = qB op a.mO b.mO := by unfold qC; rw [if_neg ah, if_neg ah, if_neg ah]
theorem S7 {op : Int} (h : sU op = true) (h1 : 20 ≤ op) (h2 : op ≤ 54) (h3 : ¬ op = 51) : ((20 ≤ op ∧ op ≤ 25) ∨ (30 ≤ op ∧ op ≤ 35)) ∨ ((40 ≤ op ∧ op ≤ 45) ∨ op = 50) ∨ op = 46 ∨ op = 47 ∨ op = 52 ∨ op = 53 ∨ op = 54 := by
 unfold sU at h
 have := of_decide_eq_true h
 omega
theorem S8 (op : Int) (a b : aY) (a0 : a.Ok) (b0 : b.Ok) (w : World) (ht : jw w) (hop : sU op = true) (h1 : 20 ≤ op) (h2 : op ≤ 54) (h3 : ¬ op = 51) : Calls Tryz.prog 148 #[.int i64 op, a.val, b.val] w (ig (qC op a b) w) := by
 rcases S7 hop h1 h2 h3 with h | h | h | h | h
 ·rw [QU ah ah]; exact QL op a b a0 b0 w ht h
 ·rw [NH h]; exact NF op a b a0 b0 w ht h
 ·exact Eo (.inl h) a b w
 ·exact Eo (.inr h) a b w
 rw [QV h]; exact QO op a b a0 b0 w ht h
theorem Me (op : Int) (a b : aY) (a0 : a.Ok) (b0 : b.Ok) (w : World) (ht : jw w) (hop : sU op = true) (h1 : 20 ≤ op) (h2 : op ≤ 54) (h3 : ¬ op = 51) (hst : bT w) : Calls Tryz.prog 103 #[.int i64 op, a.val, b.val] w (ig (qC op a b) w) := by
 have HA : ∀ W : World, Calls Tryz.prog 141 #[a.val] W (Gives (.bool true) W) := fun W => nN a a0 W
 have HB : ∀ W : World, Calls Tryz.prog 141 #[b.val] W (Gives (.bool true) W) := fun W => nN b b0 W
 have HT : Hid (∀ W : World, Below w.heap.size w W → Calls Tryz.prog 41 (dI op) W (iN op W)) := fun W hW => nM op W (hst.later hW)
 have HC : ∀ W : World, Below w.heap.size w W → Calls Tryz.prog 148 #[.int i64 op, a.val, b.val] W (ig (qC op a b) W) := fun W hW => S8 op a b a0 b0 W (ht.later hW) hop h1 h2 h3
 obtain ⟨ka, na, sa, la, ha, ea⟩ := a.form
 obtain ⟨kb, nb, sb, lb, hb, eb⟩ := b.form
 rw [ea] at HA
 rw [eb] at HB
 rw [ea, eb] at HC ⊢
 generalize qC op a b = r at *
 obtain ⟨v, k⟩ := r
 obtain ⟨kv, nv, sv, lv, hv, ev⟩ := v.form
 unfold ig gu at HC ⊢
 simp only [ev] at HC ⊢
 have HAH := lH HA
 have HBH := lH HB
 have HCH := lH HC
 clear HA HB HC ea eb ev
 have f51 : (op == 51) = false := bF h3
 obtain ⟨ba, bb, br, B0⟩ := kN w 141 (aD ka na 0 sa la ha) 141 (aD kb nb 0 sb lb hb) 141 (aD 0 0 0 ⟨#[]⟩ 0 0)
 go_in
 go_wp2_with fail
 refine (HT.out _ B0).mono ?_; rintro e w1 ⟨t, rfl, ht0, hts, hb⟩
 replace hb := gW B0 ba bb br hb
 clear ba bb br
 obtain ⟨B1, ba, cba, lba, fba, bb, cbb, lbb, fbb, br, cbr, lbr, fbr⟩ := hb
 rw [hop] at ht0
 simp only [Bool.not_true] at ht0
 have hte : ¬ t.toList = [] := by intro h; rw [h] at ht0; cases ht0
 go_wp2_with fail
 refine (HAH.out _).mono ?_; rintro e w2 ⟨rfl, hb⟩
 replace hb := gW B1 ba bb br hb
 try clear cba lba fba cbb lbb fbb cbr lbr fbr
 clear ba bb br
 obtain ⟨B2, ba, cba, lba, fba, bb, cbb, lbb, fbb, br, cbr, lbr, fbr⟩ := hb
 go_wp2_with fail
 refine (HBH.out _).mono ?_; rintro e w3 ⟨rfl, hb⟩
 replace hb := gW B2 ba bb br hb
 try clear cba lba fba cbb lbb fbb cbr lbr fbr
 clear ba bb br
 obtain ⟨B3, ba, cba, lba, fba, bb, cbb, lbb, fbb, br, cbr, lbr, fbr⟩ := hb
 go_wp2_with fail
 refine (HCH.out _ B3).mono ?_; rintro e w4 ⟨rfl, hb⟩
 replace hb := gW B3 ba bb br hb
 try clear cba lba fba cbb lbb fbb cbr lbr fbr
 clear ba bb br
 obtain ⟨B4, ba, cba, lba, fba, bb, cbb, lbb, fbb, br, cbr, lbr, fbr⟩ := hb
 go_wp2_with fail
 have hF := (((((((br.aF 0 (.int i64 kv)).aF 1 (.int i64 (nv))).aF 2 (.int i64 0)).aF 3 (.string sv)).aF 4 (.int i64 lv)).aF 5 (.int i64 hv)).alloc (.cells (aD kv nv 0 sv lv hv) 141))
 have cF := hF.cell
 refine bodyPost_ret ?_ rfl ⟨rfl, ?_⟩
 ·simp [results, Tryz.results103, go_sem, cF]
 exact ji
def Bq (c : ak) : Value := .agg (aB c.kind c.op c.number c.line c.text none 0 0)
theorem QW {c : ak} (h : pz c = true) : c.kind = 1 ∨ c.kind = 2 ∨ c.kind = 3 ∨ c.kind = 4 := by unfold pz at h; simp at h; omega
theorem NI (n : Int) (w : World) : Calls Tryz.prog 145 (dI n) w (Gives (aY.int n).val w) := by
 unfold aY.val
 obtain ⟨br, B0⟩ := dQ w 141 (aD 0 0 0 ⟨#[]⟩ 0 0)
 go_in
 go_wp2_with fail
 refine bodyPost_ret (v := .agg (aD 1 (n) 0 aC 0 0)) ?_ rfl ⟨?_, ?_⟩
 ·simp [results, Tryz.results145, go_sem]
 ·rfl
 exact ji
theorem Mf (s : ByteArray) (w : World) : Calls Tryz.prog 146 #[.string s] w (Gives (aY.text s).val w) := by
 unfold aY.val
 obtain ⟨br, B0⟩ := dQ w 141 (aD 0 0 0 ⟨#[]⟩ 0 0)
 go_in
 go_wp2_with fail
 refine bodyPost_ret (v := .agg (aD 2 (0) 0 s 0 0)) ?_ rfl ⟨?_, ?_⟩
 ·simp [results, Tryz.results146, go_sem]
 ·rfl
 exact ji
theorem oH (c : ak) (A : Option Addr) (n cap : Nat) (w : World) : Calls Tryz.prog 67 #[.agg (aB c.kind c.op c.number c.line c.text A n cap)] w (Gives (.bool (pz c)) w) := by
 have HL : Hid (pz c = (decide (1 ≤ c.kind) && decide (c.kind ≤ 4))) := rfl
 obtain ⟨bk, B0⟩ := dQ w 43 (aB c.kind c.op c.number c.line c.text A n cap)
 go_in
 go_wp2_with fail
 all_goals
  go_ret
  exact ⟨bD (by rw [HL.out, Bool.eq_iff_iff]; simp <;> omega), ((bR w.heap.size w).alloc (nR _) _)⟩
theorem qL (c : ak) (hl : pz c = true) (hs : c.text.size ≤ 1048576) (g off : Nat) (w : World) (hg : g < w.heap.size) (c0 : w.cell? (aj g off) = some (.int i64 c.kind)) (c2 : w.cell? (aj g (off + 2)) = some (.int i64 c.number)) (c4 : w.cell? (aj g (off + 4)) = some (.string c.text)) :
 Calls Tryz.prog 102 (jW (some (aj g off)) 0) w (Gives (jP c).val w) := by
 rcases QW hl with hk | hk | hk | hk
 ·have HR : Hid (jP c = .int c.number) := by show _ = _; unfold jP; rw [hk]; rfl
  rw [HR.out]
  rw [hk] at c0
  clear HR
  have HL : Hid (∀ W : World, Calls Tryz.prog 145 (dI c.number) W fun e w' => e = .returned (.agg (aD 1 (c.number) 0 aC 0 0)) ∧ Below W.heap.size W w') := fun W => NI c.number W
  unfold aY.val
  obtain ⟨br, B0⟩ := dQ w 141 (aD 0 0 0 ⟨#[]⟩ 0 0)
  go_in
  go_wp2_with fail
  refine (HL.out _).mono ?_; rintro e w1 ⟨rfl, hb⟩
  replace hb := jU B0 br hb
  clear br
  obtain ⟨B1, br, cbr, lbr, fbr⟩ := hb
  go_wp2_with fail
  have hF := ((((((br.aF 0 (.int i64 1)).aF 1 (.int i64 (c.number))).aF 2 (.int i64 0)).aF 3 (.string aC)).aF 4 (.int i64 0)).aF 5 (.int i64 0))
  have cF := hF.cell
  refine bodyPost_ret (v := .agg (aD 1 (c.number) 0 aC 0 0)) ?_ rfl ⟨?_, ?_⟩
  ·simp [results, Tryz.results102, go_sem, cF]
  ·rfl
  exact ji
 ·have HR : Hid (jP c = .text c.text) := by show _ = _; unfold jP; rw [hk]; rfl
  rw [HR.out]
  rw [hk] at c0
  clear HR
  have HL : Hid (∀ W : World, Calls Tryz.prog 146 #[.string c.text] W fun e w' => e = .returned (.agg (aD 2 (0) 0 c.text 0 0)) ∧ Below W.heap.size W w') := fun W => Mf c.text W
  unfold aY.val
  obtain ⟨br, B0⟩ := dQ w 141 (aD 0 0 0 ⟨#[]⟩ 0 0)
  go_in
  go_wp2_with fail
  refine (HL.out _).mono ?_; rintro e w1 ⟨rfl, hb⟩
  replace hb := jU B0 br hb
  clear br
  obtain ⟨B1, br, cbr, lbr, fbr⟩ := hb
  go_wp2_with fail
  have hF := ((((((br.aF 0 (.int i64 2)).aF 1 (.int i64 (0))).aF 2 (.int i64 0)).aF 3 (.string c.text)).aF 4 (.int i64 0)).aF 5 (.int i64 0))
  have cF := hF.cell
  refine bodyPost_ret (v := .agg (aD 2 (0) 0 c.text 0 0)) ?_ rfl ⟨?_, ?_⟩
  ·simp [results, Tryz.results102, go_sem, cF]
  ·rfl
  exact ji
 ·have HR : Hid (jP c = .set (bH c.text)) := by show _ = _; unfold jP; rw [hk]; rfl
  rw [HR.out]
  rw [hk] at c0
  clear HR
  have HN : Hid (∀ W : World, Calls Tryz.prog 147 #[.string c.text] W fun e w' => e = .returned (.tuple #[.agg (aL ((bH c.text).lo.toInt) ((bH c.text).hi.toInt)), .bool (jl c.text)]) ∧ Below W.heap.size W w') := fun W => tV c.text W hs
  unfold aY.val
  obtain ⟨br, B0⟩ := dQ w 141 (aD 0 0 0 ⟨#[]⟩ 0 0)
  go_in
  go_wp2_with fail
  refine (HN.out _).mono ?_; rintro e w1 ⟨rfl, hb⟩
  replace hb := jU B0 br hb
  clear br
  obtain ⟨B1, br, cbr, lbr, fbr⟩ := hb
  go_wp2_with fail
  have hF := (((((((br.aF 0 (.int i64 3)).aF 1 (.int i64 (0))).aF 2 (.int i64 0)).aF 3 (.string aC)).aF 4 (.int i64 (bH c.text).lo.toInt)).aF 5 (.int i64 (bH c.text).hi.toInt)).alloc (.cells (aL ((bH c.text).lo.toInt) ((bH c.text).hi.toInt)) 110))
  have cF := hF.cell
  refine bodyPost_ret (v := .agg (aD 3 (0) 0 aC ((bH c.text).lo.toInt) ((bH c.text).hi.toInt))) ?_ rfl ⟨?_, ?_⟩
  ·simp [results, Tryz.results102, go_sem, cF]
  ·rfl
  exact ji
 have HR : Hid (jP c = .null) := by show _ = _; unfold jP; rw [hk]; rfl
 rw [HR.out]
 rw [hk] at c0
 clear HR
 unfold aY.val
 obtain ⟨br, B0⟩ := dQ w 141 (aD 0 0 0 ⟨#[]⟩ 0 0)
 go_in
 go_wp2_with fail
 refine bodyPost_ret (v := .agg (aD 0 (0) 0 aC 0 0)) ?_ rfl ⟨?_, ?_⟩
 ·simp [results, Tryz.results102, go_sem]
 ·rfl
 exact ji
theorem Ep (v : aY) (line : Int) (w : World) : Calls Tryz.prog 104 #[v.val, line] w (Gives (.tuple #[Bq (jF line v), .bool true]) w) := by
 cases v with
 | null =>
   unfold aY.val
   obtain ⟨ba, br, B0⟩ := kK w 141 (aD 0 0 0 ⟨#[]⟩ 0 0) 43 (aB 0 0 0 0 ⟨#[]⟩ none 0 0)
   go_in
   go_wp2_with fail
   refine bodyPost_ret (v := .tuple #[.agg (aB 4 0 0 line aC none 0 0), .bool true]) ?_ rfl ⟨?_, ?_⟩
   ·simp [results, Tryz.results104, go_sem]
   ·rfl
   exact ji
 | int n =>
   unfold aY.val
   obtain ⟨ba, br, B0⟩ := kK w 141 (aD 1 n 0 ⟨#[]⟩ 0 0) 43 (aB 0 0 0 0 ⟨#[]⟩ none 0 0)
   go_in
   go_wp2_with fail
   refine bodyPost_ret (v := .tuple #[.agg (aB 1 0 n line aC none 0 0), .bool true]) ?_ rfl ⟨?_, ?_⟩
   ·simp [results, Tryz.results104, go_sem]
   ·rfl
   exact ji
 | text s =>
   unfold aY.val
   obtain ⟨ba, br, B0⟩ := kK w 141 (aD 2 0 0 s 0 0) 43 (aB 0 0 0 0 ⟨#[]⟩ none 0 0)
   go_in
   go_wp2_with fail
   refine bodyPost_ret (v := .tuple #[.agg (aB 2 0 0 line s none 0 0), .bool true]) ?_ rfl ⟨?_, ?_⟩
   ·simp [results, Tryz.results104, go_sem]
   ·rfl
   exact ji
 | set c =>
   have HN : Hid (∀ W : World, Calls Tryz.prog 149 #[.agg (aL c.lo.toInt c.hi.toInt)] W fun e w' => e = .returned (.string (dN c)) ∧ Below W.heap.size W w') := fun W => xk c W
   unfold aY.val
   obtain ⟨ba, br, B0⟩ := kK w 141 (aD 3 0 0 ⟨#[]⟩ c.lo.toInt c.hi.toInt) 43 (aB 0 0 0 0 ⟨#[]⟩ none 0 0)
   go_in
   go_wp2_with fail
   refine (HN.out _).mono ?_; rintro e w1 ⟨rfl, hb⟩
   replace hb := lF B0 ba br hb
   clear ba br
   obtain ⟨B1, ba, cba, lba, fba, br, cbr, lbr, fbr⟩ := hb
   go_wp2_with fail
   have hF := ((((((br.aF 0 (.int i64 3)).aF 1 (.int i64 0)).aF 2 (.int i64 0)).aF 3 (.int i64 line)).aF 4 (.string (dN c))).aF 5 (.slice none 0 0))
   have cF := hF.cell
   refine bodyPost_ret (v := .tuple #[.agg (aB 3 0 0 line (dN c) none 0 0), .bool true]) ?_ rfl ⟨?_, ?_⟩
   ·simp [results, Tryz.results104, go_sem, cF]
   ·rfl
   exact ji
noncomputable def oI (c : ak) : Bool := c.kids.all pz && (decide ((opR c).2 = -1) || decide ((opR c).2 = 0))
noncomputable def rD (c : ak) (A : Option Addr) (n : Nat) : Value := if oI c = true then Bq (lG c) else .agg (aB c.kind c.op c.number c.line c.text A c.kids.length n)
theorem yt {c : ak} {A : Option Addr} {n : Nat} (h : oI c = false) : rD c A n = .agg (aB c.kind c.op c.number c.line c.text A c.kids.length n) := by unfold rD; rw [if_neg vW]
theorem vG {c : ak} {A : Option Addr} {n : Nat} (h : oI c = true) : rD c A n = Bq (lG c) := by unfold rD; rw [if_pos h]
theorem S9 {c x : ak} (hm : x ∈ c.kids) (h : pz x = false) : oI c = false := by unfold oI; rw [tq hm h]; rfl
theorem Er {c : ak} (h : c.kids.all pz = true) : oI c = (decide ((opR c).2 = -1) || decide ((opR c).2 = 0)) := by unfold oI; rw [h, Bool.true_and]
theorem NJ {c : ak} (h : sU c.op = true) (har : dH c.op ≤ c.kids.length ∧ (c.kids.length : Int) ≤ dM c.op) :
 ((c.op = 1 ∨ c.op = 2 ∨ c.op = 6) → ∃ a, c.kids = [a]) ∧ ((20 ≤ c.op ∧ c.op ≤ 54 ∧ ¬ c.op = 51) → ∃ a b, c.kids = [a, b]) := by
 constructor
 ·intro ho
  have e1 : dM c.op = 1 := by unfold dM; rw [if_neg vW, if_pos ah]
  have e2 : dH c.op = 1 := by unfold dH; rw [if_neg vW, if_pos ah]
  match hk : c.kids with
  | [] => rw [hk] at har; simp at har; omega
  | [a] => exact ⟨a, rfl⟩
  | a :: b :: l => rw [hk] at har; simp at har; omega
 intro ho
 have e1 : dM c.op = 2 := by unfold dM; rw [if_neg vW, if_neg ah, if_neg ah, if_neg ah, if_neg ah]
 have e2 : dH c.op = 2 := by unfold dH; rw [if_neg vW, if_neg ah, if_neg ah, if_neg ah, if_neg ah]
 match hk : c.kids with
 | [] => rw [hk] at har; simp at har; omega
 | [a] => rw [hk] at har; simp at har; omega
 | [a, b] => exact ⟨a, b, rfl⟩
 | a :: b :: d :: l => rw [hk] at har; simp at har; omega
theorem UN {c a : ak} (hk : c.kids = [a]) (ho : c.op = 1 ∨ c.op = 2 ∨ c.op = 6) : opR c = unR c.op (jP a) := by unfold opR; rw [hk]; simp only []; rw [if_pos ho]
theorem UO {c a b : ak} (hk : c.kids = [a, b]) (ho : 20 ≤ c.op ∧ c.op ≤ 54 ∧ ¬ c.op = 51) : opR c = qC c.op (jP a) (jP b) := by unfold opR; rw [hk]; simp only []; rw [if_pos ho]
theorem WN {c : ak} (h1 : ¬ (c.op = 1 ∨ c.op = 2 ∨ c.op = 6)) (h2 : ¬ (20 ≤ c.op ∧ c.op ≤ 54 ∧ ¬ c.op = 51)) : opR c = (.null, 205) := by
 unfold opR
 split
 ·rw [if_neg h1]
 ·rw [if_neg h2]
 rfl
theorem Br {c : ak} (ha : c.kids.all pz = true) (h : (opR c).2 = -1) : lG c = jM 28 0 c.line aC := by unfold lG; rw [if_pos ha, if_pos h]
theorem Es {c : ak} (ha : c.kids.all pz = true) (h : (opR c).2 = 0) : lG c = jF c.line (opR c).1 := by unfold lG; rw [if_pos ha, if_neg vW, if_pos h]
theorem Mg {c : ak} (h : oI c = false) : lG c = c := by
 unfold lG
 split
 ·next ha =>
  rw [Er ha] at h
  simp at h
  rw [if_neg h.1, if_neg h.2]
 rfl
end Go.Proofs.YthbcamfejgghhaaGreatDoor
