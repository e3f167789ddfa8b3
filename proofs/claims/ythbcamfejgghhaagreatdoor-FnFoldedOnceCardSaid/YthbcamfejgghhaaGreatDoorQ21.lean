/- A Zn leaf. The uN of an expression: the words. A token of a text: keywords and operators; all together. The texts of drawn expressions: each of Zo -/
import Derived.Test.YthbcamfejgghhaaGreatDoorQ17
import Derived.Test.YthbcamfejgghhaaGreatDoorQ19
import Derived.Test.YthbcamfejgghhaaGreatDoorQ20
set_option maxRecDepth 100000
set_option maxHeartbeats 8000000
set_option linter.unusedVariables false
set_option linter.unusedSimpArgs false
namespace Go.Proofs.YthbcamfejgghhaaGreatDoor
open Go.IntKind (i64)
section
open Go Go.RowKit
def wI (W : World) (g : Nat) (u0 u1 u2 u3 u4 u5 : Value) : World := (((((W.setCell (aj g 0) u0).setCell (aj g 1) u1).setCell (aj g 2) u2).setCell (aj g 3) u3).setCell (aj g 4) u4).setCell (aj g 5) u5
section
variable {W w : World} {g h : Nat} {t : TypeId} {cs : Array Value}
theorem Blk.Mx {a0 a1 a2 a3 a4 a5 : Value} (b : Blk W g t #[a0, a1, a2, a3, a4, a5]) (u0 u1 u2 u3 u4 u5 : Value) : Blk (wI W g u0 u1 u2 u3 u4 u5) g t #[u0, u1, u2, u3, u4, u5] := by
 have := (((((b.aF 0 u0).aF 1 u1).aF 2 u2).aF 3 u3).aF 4 u4).aF 5 u5
 unfold wI; simpa using this
theorem Blk.Xd (b : Blk W g t cs) (hg : g ≠ h) (u0 u1 u2 u3 u4 u5 : Value) : Blk (wI W h u0 u1 u2 u3 u4 u5) g t cs := (((((b.far (p := ⟨h, 0, none⟩) hg u0).far (p := ⟨h, 1, none⟩) hg u1).far (p := ⟨h, 2, none⟩) hg u2).far (p := ⟨h, 3, none⟩) hg u3).far (p := ⟨h, 4, none⟩) hg u4).far (p := ⟨h, 5, none⟩) hg u5
theorem mq {B : Nat} (b : Below B w W) (hg : B ≤ h) (u0 u1 u2 u3 u4 u5 : Value) : Below B w (wI W h u0 u1 u2 u3 u4 u5) := (((((b.setCell (p := ⟨h, 0, none⟩) hg u0).setCell (p := ⟨h, 1, none⟩) hg u1).setCell (p := ⟨h, 2, none⟩) hg u2).setCell (p := ⟨h, 3, none⟩) hg u3).setCell (p := ⟨h, 4, none⟩) hg u4).setCell (p := ⟨h, 5, none⟩) hg u5
theorem UZ {tu te : TypeId} {cu ce : Array Value} {line : Int} (h : Two w tu cu te ce W) (k n : Int) (t : ByteArray) (ht : t.size ≤ 100) : Pe line w (.returned (.agg (aB k 0 n line t none 0 0))) (wI W (w.heap.size + 1) (.int i64 k) (.int i64 0) (.int i64 n) (.int i64 line) (.string t) (.slice none 0 0)) :=
 ⟨k, n, t, rfl, ht, mq h.bl ah _ _ _ _ _ _⟩
end
theorem zi (u : fE) (A1 A2 A3 : Option Addr) (n1 n2 n3 lo hi : Nat) (lc : List ByteArray) (Al : Option Addr) (nl : Nat) (s : ByteArray) (line : Int) (w : World) (h : dZ w lo hi fE.aG (.agg (aQ A1 u.records.length n1 A2 u.globals.length n2 A3 u.procedures.length n3)) u) (hl : aW w lo hi 1 aR (.slice Al lc.length nl) lc) (hhi : hi ≤ w.heap.size) :
 Calls Tryz.prog 171 #[.agg (aQ A1 u.records.length n1 A2 u.globals.length n2 A3 u.procedures.length n3), .slice Al lc.length nl, s, line] w (Pe line w) := by
 have HU := lH h
 have HL := lH hl
 clear h hl
 have T0 := lH (Two.start w 122 (aQ A1 u.records.length n1 A2 u.globals.length n2 A3 u.procedures.length n3) 43 (aB 0 0 0 0 aC none 0 0))
 go_in
 go_upto_region 1 with fail
 generalize (w.alloc (.cells (aQ A1 u.records.length n1 A2 u.globals.length n2 A3 u.procedures.length n3) 122)).alloc (.cells (aB 0 0 0 0 aC none 0 0) 43) = W at *
 have HF := lH (iq lc s (.slice Al lc.length nl) W lo hi (HL.out.below T0.out.bl hhi))
 have cu := T0.out.b0.cell
 have c1 := T0.out.b1.cell
 have f1 := T0.out.b1.frozen
 have l1 := T0.out.b1.lt
 go_wp2_with fail
 refine HF.out.mono ?_
 rintro e w3 ⟨rfl, rfl⟩
 cases k0 : decide (0 ≤ Lib.idxOfS lc s)
 ·have HO := lH (tJ u A1 A2 A3 n1 n2 n3 W lo hi s (HU.out.below T0.out.bl hhi) (nT hhi T0.out.bl.size))
  go_wp2_with fail
  refine HO.out.mono ?_
  rintro e w2 ⟨⟨k, i, rfl, -, -⟩, hb⟩
  replace T0 := lH (T0.out.later hb)
  clear cu c1 f1 l1 hb HO HF
  have c1 := T0.out.b1.cell
  have f1 := T0.out.b1.frozen
  have l1 := T0.out.b1.lt
  go_wp2_with fail
  refine bodyPost_ret ?_ rfl (UZ T0.out _ _ _ aA)
  have c2 := fun u0 u1 u2 u3 u4 u5 => (T0.out.b1.Mx u0 u1 u2 u3 u4 u5).cell
  unfold wI at c2
  simp [results, Tryz.results171, go_sem, c2]
 go_wp2_with fail
 refine bodyPost_ret ?_ rfl (UZ T0.out _ _ _ aA)
 have c2 := fun u0 u1 u2 u3 u4 u5 => (T0.out.b1.Mx u0 u1 u2 u3 u4 u5).cell
 unfold wI at c2
 simp [results, Tryz.results171, go_sem, c2]
end
section
open Go Go.RowKit
def He (n : Nat) : Code → Option Code
 | .seq (.region i ops d) b => if i = n then some (.seq (.region i ops d) b) else He n b
 | .seq (.seq (.region i ops d) x) b => if i = n then some (.seq (.seq (.region i ops d) x) b) else He n b
 | .seq _ b => He n b
 | _ => none
noncomputable def lD (n : Nat) : Code := (Tryz.f130.body.bind (He n)).getD .skip
inductive Dt (s0 s3 s4 s5 s6 s7 s8 s9 s10 s11 s12 s13 : Value) : Act → Prop
 | mk (u1 u2 u14 u15 u16 u17 u18 u19 u20 u21 u22 u23 u24 u25 u26 u27 u28 u29 u30 u31 u32 u33 u34 u35 u36 u37 u38 u39 u40 u41 u42 u43 u44 u45 u46 u47 u48 u49 u50 u51 u52 u53 u54 u55 u56 u57 u58 u59 u60 u61 u62 u63 u64 u65 u66 u67 u68 u69 u70 u71 u72 u73 u74 u75 u76 u77 u78 u79 u80 u81 u82 u83 u84 u85 u86 u87 u88 u89 u90 u91 u92 u93 u94 u95 u96 u97 u98 u99 Zp Zq Zr Zs Zt u105 Zu Zv Zw Zx Zy Zz ZA ZB ZC ZD ZE ZF ZG u119 ZH ZI ZJ ZK u124 ZL ZM u127 ZN ZO ZP u131 ZQ ZR ZS ZT ZU ZV u138 u139 ZW ZX ZY ZZ Z0 Z4 Z5 Z6 Z7 Z8 Z9 aaa u152 aab u154 aac aad aae aaf aag aah aai u162 aaj u164 aak aal aam aan aao aap aaq aar aas aat aau aav aaw aax aay aaz aaA aaB aaC aaD aaE aaF aaG aaH aaI aaJ aaK aaL u193 u194 aaM u196 aaN u198 aaO aaP u201 aaQ aaR aaS aaT u206 aaU u208 aaV u210 aaW aaX aaY aaZ aa0 aa1 aa2 aa3 aa4 aa5 aa6 aa7 aa8 aa9 aba abb abd abe abf abg abh abj abk u234 abl u236 abm abn abo abp abq abr abt abu abv abw abx aby abz abA abB abC abD abE abF abG abH abI abJ abK abL abM abN abO abP abQ abR abS abT abU abV abW abX abY abZ ab0 ab1 ab2 ab3 ab4 ab5 ab6 ab7 ab8 ab9 acd ace acf acg ach aci acj ack acm acn aco acp acr acs acu acv acw acy acz acA acB acC acD acE acF acG acH acI acJ acK acL acM acN acO acP acQ acR acS acT acU acV acW acX acY acZ ac0 ac1 ac2 ac3 ac4 ac5 ac6 ac7 ac8 ac9 ada adb ade adf adg adh adi adj adk adl adn ado adp adq adr ads adt adu adv adw adx ady adz adA adB adC adD adE adF adG adH adI adJ adK adL adM adN adO adP adQ adR adS adT adU adV adW adX adY adZ : Value) : Dt s0 s3 s4 s5 s6 s7 s8 s9 s10 s11 s12 s13 ⟨List.toArray (s0 :: u1 :: u2 :: s3 :: s4 :: s5 :: s6 :: s7 :: s8 :: s9 :: s10 :: s11 :: s12 :: s13 :: u14 :: u15 :: u16 :: u17 :: u18 :: u19 :: u20 :: u21 :: u22 :: u23 :: u24 :: u25 :: u26 :: u27 :: u28 :: u29 :: u30 :: u31 :: u32 :: u33 :: u34 :: u35 :: u36 :: u37 :: u38 :: u39 :: u40 :: u41 :: u42 :: u43 :: u44 :: u45 :: u46 :: u47 :: u48 :: u49 :: u50 :: u51 :: u52 :: u53 :: u54 :: u55 :: u56 :: u57 :: u58 :: u59 :: u60 :: u61 :: u62 :: u63 :: u64 :: u65 :: u66 :: u67 :: u68 :: u69 :: u70 :: u71 :: u72 :: u73 :: u74 :: u75 :: u76 :: u77 :: u78 :: u79 :: u80 :: u81 :: u82 :: u83 :: u84 :: u85 :: u86 :: u87 :: u88 :: u89 :: u90 :: u91 :: u92 :: u93 :: u94 :: u95 :: u96 :: u97 :: u98 :: u99 :: Zp :: Zq :: Zr :: Zs :: Zt :: u105 :: Zu :: Zv :: Zw :: Zx :: Zy :: Zz :: ZA :: ZB :: ZC :: ZD :: ZE :: ZF :: ZG :: u119 :: ZH :: ZI :: ZJ :: ZK :: u124 :: ZL :: ZM :: u127 :: ZN :: ZO :: ZP :: u131 :: ZQ :: ZR :: ZS :: ZT :: ZU :: ZV :: u138 :: u139 :: ZW :: ZX :: ZY :: ZZ :: Z0 :: Z4 :: Z5 :: Z6 :: Z7 :: Z8 :: Z9 :: aaa :: u152 :: aab :: u154 :: aac :: aad :: aae :: aaf :: aag :: aah :: aai :: u162 :: aaj :: u164 :: aak :: aal :: aam :: aan :: aao :: aap :: aaq :: aar :: aas :: aat :: aau :: aav :: aaw :: aax :: aay :: aaz :: aaA :: aaB :: aaC :: aaD :: aaE :: aaF :: aaG :: aaH :: aaI :: aaJ :: aaK :: aaL :: u193 :: u194 :: aaM :: u196 :: aaN :: u198 :: aaO :: aaP :: u201 :: aaQ :: aaR :: aaS :: aaT :: u206 :: aaU :: u208 :: aaV :: u210 :: aaW :: aaX :: aaY :: aaZ :: aa0 :: aa1 :: aa2 :: aa3 :: aa4 :: aa5 :: aa6 :: aa7 :: aa8 :: aa9 :: aba :: abb :: abd :: abe :: abf :: abg :: abh :: abj :: abk :: u234 :: abl :: u236 :: abm :: abn :: abo :: abp :: abq :: abr :: abt :: abu :: abv :: abw :: abx :: aby :: abz :: abA :: abB :: abC :: abD :: abE :: abF :: abG :: abH :: abI :: abJ :: abK :: abL :: abM :: abN :: abO :: abP :: abQ :: abR :: abS :: abT :: abU :: abV :: abW :: abX :: abY :: abZ :: ab0 :: ab1 :: ab2 :: ab3 :: ab4 :: ab5 :: ab6 :: ab7 :: ab8 :: ab9 :: acd :: ace :: acf :: acg :: ach :: aci :: acj :: ack :: acm :: acn :: aco :: acp :: acr :: acs :: acu :: acv :: acw :: acy :: acz :: acA :: acB :: acC :: acD :: acE :: acF :: acG :: acH :: acI :: acJ :: acK :: acL :: acM :: acN :: acO :: acP :: acQ :: acR :: acS :: acT :: acU :: acV :: acW :: acX :: acY :: acZ :: ac0 :: ac1 :: ac2 :: ac3 :: ac4 :: ac5 :: ac6 :: ac7 :: ac8 :: ac9 :: ada :: adb :: ade :: adf :: adg :: adh :: adi :: adj :: adk :: adl :: adn :: ado :: adp :: adq :: adr :: ads :: adt :: adu :: adv :: adw :: adx :: ady :: adz :: adA :: adB :: adC :: adD :: adE :: adF :: adG :: adH :: adI :: adJ :: adK :: adL :: adM :: adN :: adO :: adP :: adQ :: adR :: adS :: adT :: adU :: adV :: adW :: adX :: adY :: adZ :: []), []⟩
def dA (w : World) (lo hi : Nat) (ds : List Dat) (vs : List Value) : Prop := ∃ F : List Nat, aO w ds F vs ∧ ∀ g ∈ F, lo ≤ g ∧ g < hi
section
variable {w w' w1 w2 : World} {lo hi lo' hi' p K : Nat} {ds es : List Dat} {vs us : List Value} {v : Value} {e : TypeId} {l : List ak} {x : ak} {A : Option Addr} {n : Nat}
theorem jo.top (h : jo w lo ds vs) : dA w lo w.heap.size ds vs := by obtain ⟨F, h1, h2⟩ := h; exact ⟨F, h1, fun g hg => ⟨h2 g hg, h1.lt g hg⟩⟩
theorem dA.f (h : dA w lo hi ds vs) : jo w lo ds vs := by obtain ⟨F, h1, h2⟩ := h; exact ⟨F, h1, fun g hg => (h2 g hg).1⟩
theorem dA.wide (h : dA w lo hi ds vs) (h1 : lo' ≤ lo) (h2 : hi ≤ hi') : dA w lo' hi' ds vs := by obtain ⟨F, a, b⟩ := h; exact ⟨F, a, fun g hg => ⟨nT h1 (b g hg).1, nL (b g hg).2 h2⟩⟩
theorem dA.kept (h : dA w lo hi ds vs) (hk : ∀ g, lo ≤ g → g < hi → w'.heap[g]? = w.heap[g]?) : dA w' lo hi ds vs := by obtain ⟨F, a, b⟩ := h; exact ⟨F, a.kept fun g hg => hk g (b g hg).1 (b g hg).2, b⟩
theorem dA.below {B : Nat} (h : dA w lo hi ds vs) (hb : Below B w w') (hB : hi ≤ B) : dA w' lo hi ds vs := h.kept fun g _ h2 => hb.block g (nL h2 hB)
theorem dA.set (h : dA w lo hi ds vs) {q : Addr} (hq : q.block < lo ∨ hi ≤ q.block) (u : Value) : dA (w.setCell q u) lo hi ds vs := h.kept fun g a b => Below.heap_setCell w q u g (fun e => by subst e; omega)
theorem dA.six (h : dA w lo hi ds vs) {g : Nat} (hq : g < lo ∨ hi ≤ g) (u0 u1 u2 u3 u4 u5 : Value) : dA (wI w g u0 u1 u2 u3 u4 u5) lo hi ds vs := (((((h.set (q := ⟨g, 0, none⟩) hq u0).set (q := ⟨g, 1, none⟩) hq u1).set (q := ⟨g, 2, none⟩) hq u2).set (q := ⟨g, 3, none⟩) hq u3).set (q := ⟨g, 4, none⟩) hq u4).set (q := ⟨g, 5, none⟩) hq u5
theorem dA.eO : dA w lo hi [] [] := ⟨[], .eO, av⟩
theorem dA.app (h : dA w lo hi ds vs) (h' : dA w lo hi es us) : dA w lo hi (ds ++ es) (vs ++ us) := by
 exact Gl
theorem dA.lit {m : Nat} (h : dA w lo hi ds vs) (hv : vs.length = m * K) (hn : m ≤ maxLen) (hB : lo ≤ w.heap.size) (hh : hi ≤ w.heap.size + 1) : dA (w.alloc (.cells vs.toArray e)) lo (w.heap.size + 1) [.row K m ds] [.slice (some (aj w.heap.size 0)) m m] := by
 have := (jo.lit (e := e) h.f hv hn hB).top
 simpa using this
theorem dA.node (h : dA w lo hi [.row 6 l.length (flat ak.aG l)] [.slice A l.length n]) (k o m line : Int) (t : ByteArray) : dA w lo hi (ak.aG (.mk k o m line t l)) (ak.cells (.mk k o m line t l) A n) := by
 exact Gi
theorem dA.fit {m n0 : Nat} (h : dA w lo hi [.row 6 m ds] [.slice A n0 n]) (hn : n0 = m) : dA w lo hi [.row 6 m ds] [.slice A m n] := by subst hn; exact h
theorem dA.leaf (k o m line : Int) (t : ByteArray) : dA w lo hi (ak.aG (.mk k o m line t [])) (ak.cells (.mk k o m line t []) none 0) := dA.node (l := []) (A := none) (n := 0) ⟨[] ++ [], .aN dK.rH .eO, av⟩ k o m line t
theorem dA.cons (h : dA w lo hi x.aG (x.cells A n)) (h' : dA w lo hi (flat ak.aG l) us) : dA w lo hi (flat ak.aG (x :: l)) (x.cells A n ++ us) := by rw [cK]; exact h.app h'
theorem dA.one (h : dA w lo hi x.aG (x.cells A n)) : dA w lo hi (flat ak.aG [x]) (x.cells A n) := by rw [cK, fC, List.append_nil]; exact h
end
def eF (w : World) (lo b : Nat) (ds : List Dat) (vs : List Value) : Prop := ∃ F : List Nat, aO w ds F vs ∧ ∀ g ∈ F, lo ≤ g ∧ g ≠ b
section
variable {w w' w1 w2 : World} {lo hi b p K : Nat} {ds es : List Dat} {vs us : List Value} {v : Value} {e : TypeId} {l : List ak} {x : ak} {A : Option Addr} {n : Nat}
theorem dA.toX {hi : Nat} (h : dA w lo hi ds vs) (hb : hi ≤ b) : eF w lo b ds vs := by obtain ⟨F, h1, h2⟩ := h; exact ⟨F, h1, fun g hg => ⟨(h2 g hg).1, by have := (h2 g hg).2; omega⟩⟩
theorem eF.f (h : eF w lo b ds vs) : jo w lo ds vs := by obtain ⟨F, h1, h2⟩ := h; exact ⟨F, h1, fun g hg => (h2 g hg).1⟩
theorem eF.kept (h : eF w lo b ds vs) (hk : ∀ g, g ≠ b → g < w.heap.size → w'.heap[g]? = w.heap[g]?) : eF w' lo b ds vs := by obtain ⟨F, h1, h2⟩ := h; exact ⟨F, h1.kept fun g hg => hk g (h2 g hg).2 (h1.lt g hg), h2⟩
theorem eF.later (h : eF w lo b ds vs) (hb : Below w.heap.size w w') : eF w' lo b ds vs := h.kept fun g _ hg => hb.block g hg
theorem eF.six (h : eF w lo b ds vs) (u0 u1 u2 u3 u4 u5 : Value) : eF (wI w b u0 u1 u2 u3 u4 u5) lo b ds vs := h.kept fun g hn _ => by
 unfold wI
 simp only [Below.heap_setCell _ _ _ g (show g ≠ (⟨b, _, none⟩ : Addr).block from hn)]
theorem eF.eO : eF w lo b [] [] := ⟨[], .eO, av⟩
theorem eF.app (h : eF w lo b ds vs) (h' : eF w lo b es us) : eF w lo b (ds ++ es) (vs ++ us) := by
 exact Gl
theorem eF.lit {m : Nat} (h : eF w lo b ds vs) (hv : vs.length = m * K) (hn : m ≤ maxLen) (hB : lo ≤ w.heap.size) (hb : b < w.heap.size) : eF (w.alloc (.cells vs.toArray e)) lo b [.row K m ds] [.slice (some (aj w.heap.size 0)) m m] := by
 obtain ⟨F, h1, h2⟩ := h.later (w' := w.alloc (.cells vs.toArray e)) (bA _ _)
 have ho : (w.alloc (.cells vs.toArray e)).ownsRow 0 e K (.slice (some (aj w.heap.size 0)) m m) m vs := ⟨hv, .inr ⟨w.heap.size, m, vs.toArray, rfl, nZ _, heap_alloc_new w _, nR _, hn, by simp [hv], by simp [← hv]⟩⟩
 refine ⟨((Value.slice (some (aj w.heap.size 0)) m m).ownBlock.toList ++ F) ++ [], .aN (dK.iV ho h1) .eO, fun g hg => ?_⟩
 rw [List.append_nil] at hg
 rcases mA hg with hg | hg
 ·have hg : (Value.slice (some (aj w.heap.size 0)) m m).ownBlock = some g := by simpa using hg
  have hg : some w.heap.size = some g := hg
  injection hg with hg
  omega
 exact h2 g hg
theorem eF.node (h : eF w lo b [.row 6 l.length (flat ak.aG l)] [.slice A l.length n]) (k o m line : Int) (t : ByteArray) : eF w lo b (ak.aG (.mk k o m line t l)) (ak.cells (.mk k o m line t l) A n) := by
 exact Gi
theorem eF.leaf (k o m line : Int) (t : ByteArray) : eF w lo b (ak.aG (.mk k o m line t [])) (ak.cells (.mk k o m line t []) none 0) := eF.node (l := []) (A := none) (n := 0) ⟨[] ++ [], .aN dK.rH .eO, av⟩ k o m line t
theorem eF.cons (h : eF w lo b x.aG (x.cells A n)) (h' : eF w lo b (flat ak.aG l) us) : eF w lo b (flat ak.aG (x :: l)) (x.cells A n ++ us) := by rw [cK]; exact h.app h'
theorem eF.one (h : eF w lo b x.aG (x.cells A n)) : eF w lo b (flat ak.aG [x]) (x.cells A n) := by rw [cK, fC, List.append_nil]; exact h
end
def wP (p : Nat) (ub : Array Value) (next : Int) (c : aH) (w : World) (e : Ending) (w' : World) : Prop := ∃ (x : ak) (A : Option Addr) (n : Nat) (nx : Int), e = .returned (.agg (x.cells A n).toArray) ∧ kF w' w.heap.size x A n ∧ w.grownBy w' (some p) ∧ Blk w' p 193 (ub.push (.int i64 nx)) ∧ next ≤ nx ∧ nx ≤ next + c.nodes ∧ x.bI ≤ 2000000 * c.nodes
structure kG (w : World) (p : Nat) (c : aH) (A : Option Addr) (n : Nat) (next : Int) (pb : Array Value) (wx : World) : Prop where
 b0 : Blk wx w.heap.size 179 (ay c.kind c.text c.number c.line A c.kids.length n)
 b1 : Blk wx (w.heap.size + 1) 43 (aB 0 0 0 0 aC none 0 0)
 b2 : Blk wx (w.heap.size + 1 + 1) 43 (aB 4 0 0 c.line aC none 0 0)
 b3 : Blk wx (w.heap.size + 1 + 1 + 1) 43 (aB 28 0 0 c.line aC none 0 0)
 b4 : Blk wx (w.heap.size + 4) 43 (aB 5 0 next c.line aC none 0 0)
 bp : Blk wx p 193 pb
 gr : w.grownBy wx (some p)
section
variable {w wx wy : World} {p : Nat} {c : aH} {A : Option Addr} {n : Nat} {next nx : Int} {pb pb' ub : Array Value}
theorem ow : (Tryz.prog.info? 43).map (fun i => (i.zero, i.size, i.bytes)) = some (some (.agg (aB 0 0 0 0 aC none 0 0)), 6, 72) := aI
theorem kG.sz (h : kG w p c A n next pb wx) : w.heap.size + 5 ≤ wx.heap.size := h.b4.lt
theorem kG.kept (h : kG w p c A n next pb wx) (hp : p < w.heap.size) (bp : Blk wy p 193 pb') (hg : w.grownBy wy (some p)) (hk : ∀ g, g < w.heap.size + 5 → g ≠ p → wy.heap[g]? = wx.heap[g]?) (hs : wx.heap.size ≤ wy.heap.size) : kG w p c A n next pb' wy :=
 have K : ∀ {g : Nat} {t : TypeId} {cs : Array Value}, Blk wx g t cs → g < w.heap.size + 5 → g ≠ p → Blk wy g t cs := fun b h1 h2 => (hk _ h1 h2).trans b
 ⟨K h.b0 ah ah, K h.b1 ah ah, K h.b2 ah ah, K h.b3 ah ah, K h.b4 ah ah, bp, hg⟩
theorem kG.later (h : kG w p c A n next pb wx) (hp : p < w.heap.size) (hb : Below wx.heap.size wx wy) : kG w p c A n next pb wy := h.kept hp (h.bp.later hb) (dJ h.gr (iE hb _)) (fun g h1 _ => hb.block g (nL h1 h.sz)) hb.size
theorem kG.box (h : kG w p c A n next pb wx) (hg : wx.grownBy wy (some p)) (hp : p < w.heap.size) (bp : Blk wy p 193 pb') : kG w p c A n next pb' wy := h.kept hp bp (dJ h.gr hg) (fun g h1 h2 => hg.block g (nL h1 h.sz) (fun e => h2 (by injection e))) hg.size
theorem kG.ad1 {a0 a1 a2 a3 a4 : Value} (h : kG w p c A n next #[a0, a1, a2, a3, a4] wx) (hp : p < w.heap.size) (v : Value) : kG w p c A n next #[a0, a1, a2, a3, v] (wx.setCell (aj p 4) v) := h.kept hp (h.bp.aF 4 v) (dJ h.gr (jk _ _ _ _)) (fun g _ h2 => Below.heap_setCell wx (aj p 4) v g h2) kr
theorem kG.own {row : Option Nat} (h : kG w p c A n next pb wx) (hg : wx.grownBy wy row) (hp : p < w.heap.size) (hr : ∀ g, row = some g → w.heap.size + 5 ≤ g) : kG w p c A n next pb wy := by
 have K : ∀ g, g < w.heap.size + 5 → some g ≠ row := fun g hg e => by have := hr g e.symm; omega
 refine h.kept hp (h.bp.grown hg (K _ ah)) ?_ (fun g h1 _ => hg.block g (nL h1 h.sz) (K g h1)) hg.size
 exact ⟨hg.os.trans h.gr.os, hg.tape.trans h.gr.tape, hg.output.trans h.gr.output, nT h.gr.size hg.size, fun i hi hni => (hg.block i (nL hi h.gr.size) (K i ah)).trans (h.gr.block i hi hni)⟩
theorem kG.far (h : kG w p c A n next pb wx) (hp : p < w.heap.size) {q : Addr} (hq : w.heap.size + 5 ≤ q.block) (v : Value) : kG w p c A n next pb (wx.setCell q v) :=
 h.kept hp (h.bp.far ah v) ⟨h.gr.os, h.gr.tape, h.gr.output, by simpa [World.setCell] using h.gr.size, fun i hi hni => (Below.heap_setCell wx q v i ah).trans (h.gr.block i hi hni)⟩ (fun g h1 _ => Below.heap_setCell wx q v g ah) kr
theorem kG.done (h : kG w p c A n next (ub.push (.int i64 nx)) wx) (hp : p < w.heap.size) {x : ak} {B : Option Addr} {m lo hi : Nat} (hx : dA wx lo hi x.aG (x.cells B m)) (hlo : w.heap.size + 2 ≤ lo) (h1 : next ≤ nx) (h2 : nx ≤ next + c.nodes) (hb : x.bI ≤ 2000000 * c.nodes) :
 wP p ub next c w (.returned (.agg (x.cells B m).toArray)) (wI wx (w.heap.size + 1) (.int i64 x.kind) (.int i64 x.op) (.int i64 x.number) (.int i64 x.line) (.string x.text) (.slice B x.kids.length m)) := by
 have G : ∀ (W : World) (i : Nat) (v : Value), w.heap.size + 1 < W.heap.size → w.grownBy W (some p) → w.grownBy (W.setCell (aj (w.heap.size + 1) i) v) (some p) := fun W i v hs hg => ⟨hg.os, hg.tape, hg.output, by simpa [World.setCell] using hg.size, fun j hj hn => (Below.heap_setCell W (aj (w.heap.size + 1) i) v j (by show j ≠ w.heap.size + 1; omega)).trans (hg.block j hj hn)⟩
 have hs := h.b1.lt
 have S : ∀ (W : World) (i : Nat) (v : Value), w.heap.size + 1 < W.heap.size → w.heap.size + 1 < (W.setCell (aj (w.heap.size + 1) i) v).heap.size := fun W i v h => by simpa [World.setCell] using h
 refine ⟨x, B, m, nx, rfl, (((hx.six (.inl ah) _ _ _ _ _ _).f).low ah), ?_, h.bp.Xd ah _ _ _ _ _ _, h1, h2, hb⟩
 unfold wI
 have s0 := S wx 0 (.int i64 x.kind) hs
 have s1 := S _ 1 (.int i64 x.op) s0
 have s2 := S _ 2 (.int i64 x.number) s1
 have s3 := S _ 3 (.int i64 x.line) s2
 have s4 := S _ 4 (.string x.text) s3
 exact G _ 5 _ s4 (G _ 4 _ s3 (G _ 3 _ s2 (G _ 2 _ s1 (G _ 1 _ s0 (G _ 0 _ hs h.gr)))))
end
theorem kG.end_ {w wx : World} {p : Nat} {c : aH} {A : Option Addr} {n : Nat} {next nx : Int} {x0 x1 x2 x3 : Value} {rest : List Value} {ub : Array Value} {k o m li : Int} {t : ByteArray} {ls : List ak} {B : Option Addr} {mm lo hi : Nat} (h : kG w p c A n next (ub.push (.int i64 nx)) wx) (hp : p < w.heap.size) (hx : dA wx lo hi (ak.aG (.mk k o m li t ls)) (ak.cells (.mk k o m li t ls) B mm)) (hlo : w.heap.size + 2 ≤ lo) (h1 : next ≤ nx) (h2 : nx ≤ next + c.nodes) (hb : t.size + (ls.length + eT ls) ≤ 2000000 * c.nodes) :
 bodyPost Tryz.prog Tryz.f130 (wP p ub next c w) .ret ⟨List.toArray (x0 :: x1 :: x2 :: x3 :: .pointer (some (aj (w.heap.size + 1) 0)) :: rest), []⟩ (wI wx (w.heap.size + 1) (.int i64 k) (.int i64 o) (.int i64 m) (.int i64 li) (.string t) (.slice B ls.length mm)) := by
 have D := h.done (x := .mk k o m li t ls) hp hx hlo h1 h2 (by rw [ak.kX]; exact hb)
 simp only [ak.cells, ak.kind, ak.op, ak.number, ak.line, ak.text, ak.kids] at D
 refine bodyPost_ret (v := .agg (aB k o m li t B ls.length mm)) ?_ rfl D
 have c2 := (h.b1.Mx (.int i64 k) (.int i64 o) (.int i64 m) (.int i64 li) (.string t) (.slice B ls.length mm)).cell
 unfold wI at c2 ⊢
 simp [results, Tryz.results130, go_sem, c2, ak.cells, ak.kind, ak.op, ak.number, ak.line, ak.text, ak.kids]
structure Qn (w : World) (p : Nat) (c : aH) (A : Option Addr) (n : Nat) (next : Int) (pb : Array Value) (wx : World) (l : List ak) (v : Value) (f s : ak) (Af As : Option Addr) (nf ns gs gf go gt g1 g2 : Nat) : Prop where
 T : kG w p c A n next pb wx
 bs : Blk wx gs 43 (aB s.kind s.op s.number s.line s.text As s.kids.length ns)
 bf : Blk wx gf 43 (aB f.kind f.op f.number f.line f.text Af f.kids.length nf)
 bo : Blk wx go 43 (aB 0 0 0 c.line aC (some (aj g1 0)) 1 1)
 bt : Blk wx gt 43 (aB 0 0 0 c.line aC (some (aj g2 0)) 2 2)
 K : ∃ vs, j6 (w.heap.size + 5) 43 wx l v vs
 kb : ∀ g, v.ownBlock = some g → g < gs
 hF : dA wx (w.heap.size + 5) gs f.aG (f.cells Af nf)
 hS : dA wx (w.heap.size + 5) gs s.aG (s.cells As ns)
 hO : dA wx (w.heap.size + 5) go [.row 6 1 (flat ak.aG [f])] [.slice (some (aj g1 0)) 1 1]
 hT : dA wx (w.heap.size + 5) gt [.row 6 2 (flat ak.aG [f, s])] [.slice (some (aj g2 0)) 2 2]
 ls : w.heap.size + 5 ≤ gs
 lf : gs < gf
 lo : gf < go
 lt : go < gt
 le : gt < wx.heap.size
 len : l.length = c.kids.length
 bk : eT l ≤ 2000000 * gL c.kids
 fs : f.bI + s.bI ≤ eT l
 f0 : f.bI = 0 ∨ l[0]? = some f
theorem RJ {l : List ak} {f : ak} (h : f.bI = 0 ∨ l[0]? = some f) {j : Nat} (hj : 1 ≤ j) : f.bI ≤ eT (l.take j) := by
 rcases h with h | h
 ·omega
 refine qo (mG (i := 0) ?_)
 rw [List.getElem?_take, if_pos ah]; exact h
end
section
open Go Go.RowKit
theorem TI (s : ByteArray) (i : Nat) (w : World) (hs : s.size ≤ 1048576) (hi : i < s.size) (hq : s[i].toNat = 38) (h1 : i + 1 < s.size) (hL1 : iB s[i + 1].toNat = true) :
 Calls Tryz.prog 156 (lM s i) w (MV s i w) := by
 have q1 : (0 : Int) ≤ (i : Int) := ah
 have q2 : (i : Int) < (s.size : Int) := ah
 have HL : Hid (iB s[i].toNat = false) := lH vV
 have HD : Hid (mh s[i].toNat = false) := lH vV
 have HL1 := lH hL1
 have c1 : ((s[i].toNat : Int) == 34) = false := by rw [hq]; decide
 have c2 : ((s[i].toNat : Int) == 39) = false := by rw [hq]; decide
 have c3 : ((s[i].toNat : Int) == 38) = true := by rw [hq]; decide
 have q3 : (i : Int) + 1 < (s.size : Int) := ah
 clear hq hL1
 go_in
 go_wp2_with (first | (go_at_call 68; refine (iD _ _ (Nat.le_of_lt_succ (UInt8.toNat_lt _))).mono ?_; (first | rw [HL.out] | rw [HL1.out]); rintro e w2 ⟨rfl, rfl⟩) | (go_at_call 70; refine (kH _ _ (Nat.le_of_lt_succ (UInt8.toNat_lt _))).mono ?_; rw [HD.out]; rintro e w2 ⟨rfl, rfl⟩) | fail)
 go_loop [7] (fun n => ∃ j : Nat, i < j ∧ j ≤ s.size ∧ n = .int i64 j) (fun n => s.size - (intOf n).toNat)
 case atStart => exact ⟨i + 1, ah, ah, by go_num⟩
 obtain ⟨j, hj, hj1, rfl⟩ := hrel
 have e0 : (0 : Int) ≤ (j : Int) := ah
 have bx := Blk.new w 171 (aV 0 aC 0)
 have cx := bx.cell
 have fx := bx.frozen
 by_cases hlt : j < s.size
 ·have e1 : (j : Int) < (s.size : Int) := by omega
  cases hx : iB s[j].toNat with
  | true =>
    have H1 := lH hx
    clear hx
    exact Gh
  | false =>
    have H1 := lH hx
    clear hx
    go_wp2_with (first | (go_at_call 68; refine (iD _ _ (Nat.le_of_lt_succ (UInt8.toNat_lt _))).mono ?_; rw [H1.out]; rintro e w2 ⟨rfl, rfl⟩) | fail)
    refine (qw _ _).mono ?_
    rintro e w3 ⟨b, rfl, hb3⟩
    have hw : Below w.heap.size w w3 := ((bR w.heap.size w).alloc (nR _) _).trans (hb3.mono av)
    have bx3 := bx.below hb3 av
    clear cx fx bx
    obtain ⟨cx, lx, fx⟩ := bx3.all
    cases b with
    | true =>
      go_wp2_with fail
      refine bodyPost_ret (v := .tuple #[.agg (aV 6 (s.extract (i + 1) j) 0), j]) ?_ rfl ⟨⟨_, _, _, rfl, ?_, ?_⟩, ?_⟩
      ·exact lU
      ·exact ou _ _ _
      ·omega
      exact qO
    | false =>
      exact pQ
 obtain rfl : j = s.size := by omega
 go_wp2_with fail
 refine (qw _ _).mono ?_
 rintro e w3 ⟨b, rfl, hb3⟩
 have hw : Below w.heap.size w w3 := ((bR w.heap.size w).alloc (nR _) _).trans (hb3.mono av)
 have bx3 := bx.below hb3 av
 clear cx fx bx
 obtain ⟨cx, lx, fx⟩ := bx3.all
 cases b with
 | true =>
   go_wp2_with fail
   refine bodyPost_ret (v := .tuple #[.agg (aV 6 (s.extract (i + 1) s.size) 0), s.size]) ?_ rfl ⟨⟨_, _, _, rfl, ?_, ?_⟩, ?_⟩
   ·exact lU
   ·exact ou _ _ _
   ·omega
   exact qO
 | false =>
   exact pQ
theorem VC (s : ByteArray) (i : Nat) (w : World) (hs : s.size ≤ 1048576) (hi : i < s.size) (hL : iB s[i].toNat = false) (hD : mh s[i].toNat = false) (h34 : s[i].toNat ≠ 34) (h39 : s[i].toNat ≠ 39) (hA : s[i].toNat ≠ 38 ∨ s.size ≤ i + 1 ∨ ∃ h : i + 1 < s.size, iB s[i + 1].toNat = false) :
 Calls Tryz.prog 156 (lM s i) w (MV s i w) := by
 have q1 : (0 : Int) ≤ (i : Int) := ah
 have q2 : (i : Int) < (s.size : Int) := ah
 have HL := lH hL
 have HD := lH hD
 have c1 : ((s[i].toNat : Int) == 34) = false := aJ
 have c2 : ((s[i].toNat : Int) == 39) = false := aJ
 clear hL hD h34 h39
 have bx := Blk.new w 171 (aV 0 aC 0)
 have cx := bx.cell
 have fx := bx.frozen
 go_in
 by_cases h38 : s[i].toNat = 38
 rotate_left
 ·have c3 : ((s[i].toNat : Int) == 38) = false := by simp; omega
  clear hA h38
  exact JJ
 have c3 : ((s[i].toNat : Int) == 38) = true := by rw [h38]; decide
 rcases hA with hA | hA | ⟨hA, hN⟩
 ·exact absurd h38 hA
 ·have q3 : ¬ ((i : Int) + 1 < (s.size : Int)) := by omega
  clear h38 hA
  exact JJ
 have HN := lH hN
 have q3 : (i : Int) + 1 < (s.size : Int) := ah
 clear h38 hN
 go_wp2_with (first | (go_at_call 68; refine (iD _ _ (Nat.le_of_lt_succ (UInt8.toNat_lt _))).mono ?_; (first | rw [HL.out] | rw [HN.out]); rintro e w2 ⟨rfl, rfl⟩) | (go_at_call 70; refine (kH _ _ (Nat.le_of_lt_succ (UInt8.toNat_lt _))).mono ?_; rw [HD.out]; rintro e w2 ⟨rfl, rfl⟩) | fail)
 refine (rT _).mono ?_
 rintro e w3 ⟨⟨g, rfl, l, hB, hln, hsz, hg⟩, hb3⟩
 have hw : Below w.heap.size w w3 := ((bR w.heap.size w).alloc (nR _) _).trans (hb3.mono av)
 have bx3 := bx.below hb3 av
 clear cx fx bx
 obtain ⟨cx, lx, fx⟩ := bx3.all
 go_wp2_with fail
 go_loopw [16] (fun m wr => ∃ k : Nat, k ≤ 62 ∧ m = .int i64 k ∧ Same w3 wr) (fun m _ => 62 - (intOf m).toNat)
 case atStart => exact ⟨0, ah, rfl, Same.refl _⟩
 obtain ⟨k, hk, rfl, hSm⟩ := hrel
 obtain ⟨wo, rfl⟩ := nW wr
 have bo := bx3.same hSm
 clear cx fx lx
 have cx := bo.cell
 have fx := bo.frozen
 have hwo : Below w.heap.size w wo := hw.trans (hSm.below _)
 by_cases hlt : k < 62
 ·exact Q8
 obtain rfl : k = 62 := by omega
 go_wp2_with fail
 refine bodyPost_ret (v := .tuple #[.agg (aV 0 aC 0), .int i64 (-1)]) ?_ rfl ⟨⟨_, _, _, rfl, ?_, ?_⟩, ?_⟩
 ·exact lU
 ·exact zero_le s
 ·omega
 first | exact ko hwo _ _ _ | exact (bR w.heap.size w).alloc (nR _) _
theorem MX (s : ByteArray) (i : Nat) (w : World) (hs : s.size ≤ 1048576) (hi : i < s.size) : Calls Tryz.prog 156 (lM s i) w (MV s i w) := by
 cases hL : iB s[i].toNat with
 | true => exact MW s i w hs hi hL
 | false =>
 cases hD : mh s[i].toNat with
 | true => exact Qf s i w hs hi hL hD
 | false =>
 by_cases h34 : s[i].toNat = 34
 ·exact RG s i w hs hi h34
 by_cases h39 : s[i].toNat = 39
 ·exact one_set s i w hs hi h39
 by_cases h38 : s[i].toNat = 38 ∧ ∃ h : i + 1 < s.size, iB s[i + 1].toNat = true
 ·obtain ⟨h1, h2, h3⟩ := h38
  exact TI s i w hs hi h1 h2 h3
 refine VC s i w hs hi hL hD h34 h39 ?_
 by_cases e : s[i].toNat = 38
 ·by_cases e2 : s.size ≤ i + 1
  ·exact .inr (.inl e2)
  have e3 : i + 1 < s.size := ah
  refine .inr (.inr ⟨e3, ?_⟩)
  cases hb : iB s[i + 1].toNat with
  | false => rfl
  | true => exact absurd ⟨e, e3, hb⟩ h38
 exact .inl e
end
section
open Go Go.RowKit
theorem r9 (d : Int) (h : d ≤ 0) : Txt 126 d (24) := by
 exact N7
theorem zk (d : Int) (h : d ≤ 0) : Txt 163 d (24) := by
 exact N7
theorem Lf (d : Int) (h : d ≤ 0) (h1 : -100 ≤ d) : Txt 165 d (60) := by
 have hi0 := r9 0 (Int.le_refl 0)
 have hp0 := zh (d - 1) ah
 intro c w0 w hA
 go_in
 go_wp2_with (first
  | (go_at_call 127; refine (jV (k := 24) aU aM aI).mono ?_; rintro e w1 ⟨_, rfl, hA, s, rfl, hs⟩)
  | (go_at_call 47; refine (kJ aU aA aA).mono ?_; rintro e w1 ⟨_, rfl, hA, x, rfl, hx0, hx⟩; clear hx hx0)
  | (go_at_call 126; (first | (with_reducible refine (hi0 _ _ _ aU).mono ?_)); rintro e w1 ⟨_, rfl, hA, s, rfl, hs⟩)
  | (go_at_call 166; (first | (refine (hp0 _ _ _ aU).mono ?_)); rintro e w1 ⟨_, rfl, hA, s, rfl, hs⟩)
  | fail)
 all_goals go_ret
 all_goals refine ⟨_, rfl, aU, _, rfl, ?_⟩
 all_goals (try simp only [ByteArray.size_append, oh, List.size_toArray, List.length_cons, List.length_nil])
 all_goals omega
theorem TJ (d : Int) (n : Nat) (h : 0 < d) (hd : d ≤ 100) (hn : n ≤ 1000000) (hn0 : 60 ≤ n) (hI : Txt 126 (d - 1) n) (hS : Txt 163 (d - 1) n) : Txt 126 d (3 * n + 100) := by
 have hi0 := r9 0 (Int.le_refl 0)
 have hs0 := zk 0 (Int.le_refl 0)
 intro c w0 w hA
 go_in
 go_wp2_with (first
  | (go_at_call 127; refine (jV (k := 24) aU aM aI).mono ?_; rintro e w1 ⟨_, rfl, hA, s, rfl, hs⟩)
  | (go_at_call 47; refine (kJ aU aA aA).mono ?_; rintro e w1 ⟨_, rfl, hA, x, rfl, hx0, hx⟩; clear hx hx0)
  | (go_at_call 126; (first | (with_reducible refine (hi0 _ _ _ aU).mono ?_) | (refine (hI _ _ _ aU).mono ?_)); rintro e w1 ⟨_, rfl, hA, s, rfl, hs⟩)
  | (go_at_call 163; (first | (with_reducible refine (hs0 _ _ _ aU).mono ?_) | (refine (hS _ _ _ aU).mono ?_)); rintro e w1 ⟨_, rfl, hA, s, rfl, hs⟩)
  | fail)
 all_goals go_ret
 all_goals refine ⟨_, rfl, aU, _, rfl, ?_⟩
 all_goals (try simp only [ByteArray.size_append, oh, List.size_toArray, List.length_cons, List.length_nil])
 all_goals omega
theorem TK (d : Int) (n : Nat) (h : 0 < d) (hd : d ≤ 100) (hn : n ≤ 1000000) (hn0 : 60 ≤ n) (hI : Txt 126 (d - 1) n) (hS : Txt 163 (d - 1) n) (hT : Txt 165 (d - 1) n) (hP : Txt 166 (d - 1) n) : Txt 163 d (3 * n + 100) := by
 have hi0 := r9 0 (Int.le_refl 0)
 have hs0 := zk 0 (Int.le_refl 0)
 intro c w0 w hA
 go_in
 go_wp2_with (first
  | (go_at_call 127; refine (jV (k := 24) aU aM aI).mono ?_; rintro e w1 ⟨_, rfl, hA, s, rfl, hs⟩)
  | (go_at_call 47; refine (kJ aU aA aA).mono ?_; rintro e w1 ⟨_, rfl, hA, x, rfl, hx0, hx⟩; clear hx hx0)
  | (go_at_call 126; (first | (with_reducible refine (hi0 _ _ _ aU).mono ?_) | (refine (hI _ _ _ aU).mono ?_)); rintro e w1 ⟨_, rfl, hA, s, rfl, hs⟩)
  | (go_at_call 163; (first | (with_reducible refine (hs0 _ _ _ aU).mono ?_) | (refine (hS _ _ _ aU).mono ?_)); rintro e w1 ⟨_, rfl, hA, s, rfl, hs⟩)
  | (go_at_call 165; (first | (refine (hT _ _ _ aU).mono ?_)); rintro e w1 ⟨_, rfl, hA, s, rfl, hs⟩)
  | (go_at_call 166; (first | (refine (hP _ _ _ aU).mono ?_)); rintro e w1 ⟨_, rfl, hA, s, rfl, hs⟩)
  | fail)
 all_goals go_ret
 all_goals refine ⟨_, rfl, aU, _, rfl, ?_⟩
 all_goals (try simp only [ByteArray.size_append, oh, List.size_toArray, List.length_cons, List.length_nil])
 all_goals omega
theorem TL (d : Int) (n : Nat) (h : 0 < d) (hd : d ≤ 100) (hn : n ≤ 1000000) (hn0 : 60 ≤ n) (hT : Txt 165 (d - 1) n) (hP : Txt 166 (d - 1) n) : Txt 165 d (3 * n + 100) := by
 have hi0 := r9 0 (Int.le_refl 0)
 intro c w0 w hA
 go_in
 go_wp2_with (first
  | (go_at_call 127; refine (jV (k := 24) aU aM aI).mono ?_; rintro e w1 ⟨_, rfl, hA, s, rfl, hs⟩)
  | (go_at_call 47; refine (kJ aU aA aA).mono ?_; rintro e w1 ⟨_, rfl, hA, x, rfl, hx0, hx⟩; clear hx hx0)
  | (go_at_call 126; (first | (with_reducible refine (hi0 _ _ _ aU).mono ?_)); rintro e w1 ⟨_, rfl, hA, s, rfl, hs⟩)
  | (go_at_call 165; (first | (refine (hT _ _ _ aU).mono ?_)); rintro e w1 ⟨_, rfl, hA, s, rfl, hs⟩)
  | (go_at_call 166; (first | (refine (hP _ _ _ aU).mono ?_)); rintro e w1 ⟨_, rfl, hA, s, rfl, hs⟩)
  | fail)
 all_goals go_ret
 all_goals refine ⟨_, rfl, aU, _, rfl, ?_⟩
 all_goals (try simp only [ByteArray.size_append, oh, List.size_toArray, List.length_cons, List.length_nil])
 all_goals omega
def PZ : Nat → Nat
 | 0 => 60
 | k + 1 => 3 * PZ k + 100
theorem Pj : ∀ k, 60 ≤ PZ k
 | 0 => nR _
 | k + 1 => by have := Pj k; rw [PZ]; omega
structure RL (d : Int) (n : Nat) : Prop where
 int : Txt 126 d n
 str : Txt 163 d n
 tab : Txt 165 d n
 pat : Txt 166 d n
theorem Pk : ∀ (k : Nat) (d : Int), k ≤ 3 → d ≤ k → -50 ≤ d → RL d (PZ k)
 | 0, d, _, h, h1 => ⟨(r9 d h).mono aA, (zk d h).mono aA, (Lf d h ah).mono aA, (zh d h).mono aA⟩
 | k + 1, d, hk, h, h1 => by
   have hu := Pj k
   have hb : PZ k ≤ 1000000 := by
    rcases k with _ | _ | _ | k
    ·decide
    ·decide
    ·decide
    omega
   by_cases h0 : d ≤ 0
   ·exact ⟨(r9 d h0).mono yU, (zk d h0).mono yU, (Lf d h0 ah).mono yU, (zh d h0).mono yU⟩
   have ih := Pk k (d - 1) ah ah ah
   exact ⟨TJ d _ ah ah hb hu ih.int ih.str, TK d _ ah ah hb hu ih.int ih.str ih.tab ih.pat, TL d _ ah ah hb hu ih.tab ih.pat, (TG d _ ah ah hb ih.pat).mono yU⟩
theorem Bz (d : Int) (h : d ≤ 3) (h1 : -50 ≤ d) : RL d 2920 := Pk 3 d (nR _) h h1
end
section
open Go Go.RowKit
abbrev Txb (f : FuncId) (d : Int) (n : Nat) : Prop := ∀ (c : Nat) (w0 w : World) (b : Bool), At_ c w0 w → Calls Tryz.prog f #[.pointer (some (aj c 0)), d, .bool b] w (Got c w0 (P6 n))
theorem Txb.mono {f : FuncId} {d : Int} {n m : Nat} (h : Txb f d n) (hm : n ≤ m) : Txb f d m := fun c w0 w b hA => (h c w0 w b hA).mono fun _ _ ⟨v, he, hA', s, hv, hs⟩ => ⟨v, he, hA', s, hv, nT hs hm⟩
theorem RN (d : Int) (n : Nat) (hn : n ≤ 10000000) (hS : Txb 125 d n) : Txb 164 d (2 * n + 4) := by
 intro c w0 w b hA
 go_in
 go_wp2_with (first
  | (go_at_call 46; refine (rZ aU aA aA).mono ?_; rintro e w1 ⟨_, rfl, hA, b, rfl⟩)
  | (go_at_call 125; (first | (refine (hS _ _ _ _ aU).mono ?_)); rintro e w1 ⟨_, rfl, hA, s, rfl, hs⟩)
  | fail)
 all_goals go_ret
 all_goals refine ⟨_, rfl, aU, _, rfl, ?_⟩
 all_goals (try simp only [ByteArray.size_append, oh, List.size_toArray, List.length_cons, List.length_nil, Array.size_append, List.length_append])
 all_goals omega
theorem FO (d : Int) (h : d ≤ 0) : Txb 125 d (10000) := by
 intro c w0 w b hA
 cases b
 all_goals
  go_in
  go_wp2_with (first
   | (go_at_call 47; refine (kJ aU aA aA).mono ?_; rintro e w1 ⟨_, rfl, hA, x, rfl, hx0, hx⟩; have hq : ∀ j : Int, 9 ≤ j → (x % 9 == j) = false := fun j hj => by simp; omega)
   | (go_at_call 127; refine (jV (k := 24) aU aM aI).mono ?_; rintro e w1 ⟨_, rfl, hA, s, rfl, hs⟩)
   | (go_at_call 126; refine ((Bz _ ah ah).int _ _ _ aU).mono ?_; rintro e w1 ⟨_, rfl, hA, s, rfl, hs⟩)
   | (go_at_call 163; refine ((Bz _ ah ah).str _ _ _ aU).mono ?_; rintro e w1 ⟨_, rfl, hA, s, rfl, hs⟩)
   | (go_at_call 165; refine ((Bz _ ah ah).tab _ _ _ aU).mono ?_; rintro e w1 ⟨_, rfl, hA, s, rfl, hs⟩)
   | (go_at_call 166; refine ((Bz _ ah ah).pat _ _ _ aU).mono ?_; rintro e w1 ⟨_, rfl, hA, s, rfl, hs⟩)
   | (go_at_call 46; refine (rZ aU aA aA).mono ?_; rintro e w1 ⟨_, rfl, hA, b, rfl⟩)
   | fail)
 all_goals go_ret
 all_goals refine ⟨_, rfl, aU, _, rfl, ?_⟩
 all_goals (try simp only [ByteArray.size_append, oh, List.size_toArray, List.length_cons, List.length_nil, Array.size_append, List.length_append])
 all_goals omega
theorem RO (d : Int) (n : Nat) (h : 0 < d) (hd : d ≤ 3) (hn : n ≤ 10000000) (hS : Txb 125 (d - 1) n) (hM : Txb 164 (d - 1) n) : Txb 125 d (3 * n + 10000) := by
 intro c w0 w b hA
 cases b
 all_goals
  go_in
  go_wp2_with (first
   | (go_at_call 47; refine (kJ aU aA aA).mono ?_; rintro e w1 ⟨_, rfl, hA, x, rfl, hx0, hx⟩; clear hx hx0)
   | (go_at_call 127; refine (jV (k := 24) aU aM aI).mono ?_; rintro e w1 ⟨_, rfl, hA, s, rfl, hs⟩)
   | (go_at_call 126; refine ((Bz _ ah ah).int _ _ _ aU).mono ?_; rintro e w1 ⟨_, rfl, hA, s, rfl, hs⟩)
   | (go_at_call 163; refine ((Bz _ ah ah).str _ _ _ aU).mono ?_; rintro e w1 ⟨_, rfl, hA, s, rfl, hs⟩)
   | (go_at_call 165; refine ((Bz _ ah ah).tab _ _ _ aU).mono ?_; rintro e w1 ⟨_, rfl, hA, s, rfl, hs⟩)
   | (go_at_call 166; refine ((Bz _ ah ah).pat _ _ _ aU).mono ?_; rintro e w1 ⟨_, rfl, hA, s, rfl, hs⟩)
   | (go_at_call 46; refine (rZ aU aA aA).mono ?_; rintro e w1 ⟨_, rfl, hA, b, rfl⟩)
   | (go_at_call 125; (first | (refine (hS _ _ _ _ aU).mono ?_)); rintro e w1 ⟨_, rfl, hA, s, rfl, hs⟩)
   | (go_at_call 164; (first | (refine (hM _ _ _ _ aU).mono ?_)); rintro e w1 ⟨_, rfl, hA, s, rfl, hs⟩)
   | fail)
 all_goals go_ret
 all_goals refine ⟨_, rfl, aU, _, rfl, ?_⟩
 all_goals (try simp only [ByteArray.size_append, oh, List.size_toArray, List.length_cons, List.length_nil, Array.size_append, List.length_append])
 all_goals omega
end
end Go.Proofs.YthbcamfejgghhaaGreatDoor
