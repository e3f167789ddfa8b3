/- The uN: what its pieces say of one another. Ws of the program at a text of any length that a drawn program may hold. -/
import Derived.Test.YthbcamfejgghhaaGreatDoorQ22
set_option maxRecDepth 100000
set_option maxHeartbeats 8000000
set_option linter.unusedVariables false
set_option linter.unusedSimpArgs false
namespace Go.Proofs.YthbcamfejgghhaaGreatDoor
open Go.IntKind (i64)
section
open Go Go.RowKit
def Py (u : fE) (A1 A2 A3 : Option Addr) (n1 n2 n3 lo hi p : Nat) (lc : List ByteArray) (Al : Option Addr) (nl : Nat) : Prop := ∀ (c : aH) (A : Option Addr) (n : Nat) (w wx : World) (next nx : Int) (l : List ak) (A' : Option Addr) (n' : Nat) (f s : ak) (Af As : Option Addr) (nf ns gs gf go gt g1 g2 : Nat) (hp : p < w.heap.size) (hn1 : next ≤ nx) (hn2 : nx ≤ next + c.nodes) (HU : Hid (dZ w lo hi fE.aG (.agg (aQ A1 u.records.length n1 A2 u.globals.length n2 A3 u.procedures.length n3)) u)) (HL : Hid (aW w lo hi 1 aR (.slice Al lc.length nl) lc)) (hhp : hi ≤ p) (HOK : Hid c.Ok) (HK : Hid (Qn w p c A n next (gT A1 u.records.length n1 A2 u.globals.length n2 A3 u.procedures.length n3 Al lc.length nl nx) wx l (.slice A' l.length n') f s Af As nf ns gs gf go gt g1 g2)) (s9 : Value) (a : Act) (hF : Dt (.pointer (some (aj p 0))) (.pointer (some (aj w.heap.size 0))) (.pointer (some (aj (w.heap.size + 1) 0))) (.pointer (some (aj (w.heap.size + 1 + 1) 0))) (.pointer (some (aj (w.heap.size + 1 + 1 + 1) 0))) (.pointer (some (aj (w.heap.size + 4) 0))) (.slice A' l.length n') s9 (.pointer (some (aj gs 0))) (.pointer (some (aj gf 0))) (.pointer (some (aj go 0))) (.pointer (some (aj gt 0))) a), Code.wp Tryz.prog (lD 19) (bodyPost Tryz.prog Tryz.f130 (wP p (jf A1 u.records.length n1 A2 u.globals.length n2 A3 u.procedures.length n3 Al lc.length nl) next c w)) a wx
def U6 (u : fE) (A1 A2 A3 : Option Addr) (n1 n2 n3 lo hi p : Nat) (lc : List ByteArray) (Al : Option Addr) (nl : Nat) : Prop := ∀ (c : aH) (A : Option Addr) (n : Nat) (w wr : World) (next nx : Int) (l : List ak) (A' : Option Addr) (n' : Nat) (hp : p < w.heap.size) (hn1 : next ≤ nx) (hn2 : nx ≤ next + c.nodes) (HU : Hid (dZ w lo hi fE.aG (.agg (aQ A1 u.records.length n1 A2 u.globals.length n2 A3 u.procedures.length n3)) u)) (HL : Hid (aW w lo hi 1 aR (.slice Al lc.length nl) lc)) (hhp : hi ≤ p) (HOK : Hid c.Ok) (HT : Hid (kG w p c A n next (gT A1 u.records.length n1 A2 u.globals.length n2 A3 u.procedures.length n3 Al lc.length nl nx) wr)) (HG : Hid (∃ vs, j6 (w.heap.size + 5) 43 wr l (.slice A' l.length n') vs)) (hln : Hid (l.length = c.kids.length)) (hbk : eT l ≤ 2000000 * gL c.kids) (s9 s10 s11 s12 s13 : Value) (a : Act) (hF : Dt (.pointer (some (aj p 0))) (.pointer (some (aj w.heap.size 0))) (.pointer (some (aj (w.heap.size + 1) 0))) (.pointer (some (aj (w.heap.size + 1 + 1) 0))) (.pointer (some (aj (w.heap.size + 1 + 1 + 1) 0))) (.pointer (some (aj (w.heap.size + 4) 0))) (.slice A' l.length n') s9 s10 s11 s12 s13 a), Code.wp Tryz.prog (lD 11) (bodyPost Tryz.prog Tryz.f130 (wP p (jf A1 u.records.length n1 A2 u.globals.length n2 A3 u.procedures.length n3 Al lc.length nl) next c w)) a wr
end
section
open Go.RowKit
theorem AU (s : ByteArray) (w : World) (hs : s.size ≤ 34359738368) :
 Calls Tryz.prog 60 #[.string s] w fun e w' => e = .returned (.bool (kQ s)) ∧ Same w w' := by
 go_in
 go_wp2_with fail
 go_loopw [3] (fun i wr => ∃ k : Nat, k ≤ s.size ∧ i = .int i64 k ∧ Hid (∀ j, j < k → kC s j = true) ∧ Same w wr) (fun i _ => s.size - (intOf i).toNat)
 case atStart => exact ⟨0, nZ _, rfl, (fun j hj => by omega), Same.refl _⟩
 obtain ⟨k, hk, rfl, hgo, hsm⟩ := hrel
 obtain ⟨wo, rfl⟩ := nW wr
 by_cases hlt : k < s.size
 ·have e0 : (0 : Int) ≤ (k : Int) := by omega
  have e8 : (k : Int) < (s.size : Int) := ah
  have HK := jh s k hlt
  by_cases h7 : 127 < s[k].toNat
  ·have HN := lH (zS hlt (by unfold kC; rw [HK, dF ah]; rfl))
   have d7 : decide ((127 : Int) < (s[k].toNat : Int)) = true := aJ
   have n7 := dT h7
   clear HK hgo
   exact Jq
  have d7 : decide ((127 : Int) < (s[k].toNat : Int)) = false := aJ
  have n7 := dF h7
  by_cases hk0 : k = 0
  ·have HN : Hid (∀ j, j < k + 1 → kC s j = true) := by
    intro j hj
    obtain rfl : j = k := by omega
    unfold kC; rw [HK, dT (by omega : s[j].toNat ≤ 127), dT hk0]; rfl
   have d0 : decide ((0 : Int) < (k : Int)) = false := aJ
   have n0 : decide (0 < k) = false := dF ah
   clear HK hgo hk0
   exact I7
  obtain ⟨m, hmk⟩ : ∃ m : Nat, k = m + 1 := ⟨k - 1, ah⟩
  have hm : m < s.size := ah
  have HM := jh s m hm
  have d0 : decide ((0 : Int) < (k : Int)) = true := dT ah
  have n0 : decide (0 < k) = true := dT ah
  have g1 : IntKind.i64.wrap ((k : Int) - 1) = (m : Int) := (IntWalk.i64_in _ ah).trans ah
  have f0 : (0 : Int) ≤ (m : Int) := ah
  have f8 : (m : Int) < (s.size : Int) := ah
  have hkm : k - 1 = m := ah
  by_cases hle : s[k].toNat ≤ s[m].toNat
  ·have HN := lH (zS hlt (by unfold kC; rw [hkm, HK, HM, dF hk0, dF (by omega : ¬ s[m].toNat < s[k].toNat)]; simp))
   have l7 := dT hle
   clear HK HM hgo hk0 hmk hkm
   exact Jq
  have HN : Hid (∀ j, j < k + 1 → kC s j = true) := by
   intro j hj
   by_cases e : j = k
   ·unfold kC; rw [e, hkm, HK, HM, dT (by omega : s[k].toNat ≤ 127), dT (by omega : s[m].toNat < s[k].toNat)]; simp
   exact hgo.out j ah
  have l7 := dF hle
  clear HK HM hgo hk0 hmk hkm
  exact I7
 obtain rfl : k = s.size := by omega
 have HY := lH (xE hgo.out)
 clear hgo
 go_wp2_with fail
 go_ret
 exact ⟨bD HY.out.symm, hsm⟩
end
end Go.Proofs.YthbcamfejgghhaaGreatDoor
