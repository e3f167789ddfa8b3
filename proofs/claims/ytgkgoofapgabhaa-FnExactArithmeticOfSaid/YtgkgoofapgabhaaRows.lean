/-
  No cell of these rows narrows 'for every input' (looked for: loops, veiled, ifaces, maps, wideKeys, modest, calm, conditions, laid).
  DERIVED. THE GIVEN ROWS OF THIS SEAT. 7 by the template 'for every input the law returns true; each argument reads behind the call as it read before'; 0 by the template 'total and deterministic' (their statements: YtgkgoofapgabhaaTotals.lean).
  GIVEN WITH THE SEED: the statements are not yours to turn. If you find one false, say at which input.
  Laid BY PROGRAM, IN A SANDBOX (cutbox-rows.mjs): the forced cells as the released guide's own fill.sh prints them over the translation 590d4ca4cf0a855b… (all of the seat's roots in one cut). By AI agents, Wed Nov 11 2026. No macro, syntax, notation, axiom, sorry.
-/
import Derived.Test.YtgkgoofapgabhaaChecked
import GoSem.Claim
import GoSem.ClaimJoined
import GoSem.ClaimMapViews
import Derived.JoinedTies
import Derived.KernelRfl
namespace Go.Proofs.Ytgkgoofapgabhaa
/- THE CELL 'sum', in the pinned program and in every row, IS THE sha256 OF THE DUMP (.gsa) THAT YtgkgoofapgabhaaProg.lean LOADS. Nothing in Lean hashes anything: it is a label: what it is worth is what the hold of that sum in a sandbox is worth. -/
noncomputable def Try.pinned : Pinned := { name := "ytgkgoofapgabhaa", sum := "590d4ca4cf0a855b95158088ab64839e7e87627fad429dc6c24d052f07fba368", checked := Try.checked }
namespace Rows
def none {H : Type} : Left H := { results := [], args := [] }

/-- 'laws.FnExactIsBalanced': WHATEVER THE INPUT: true; the input reads as it did. -/
def fnExactIsBalancedSpec : ChangeSpec := { name := "fnExactIsBalanced", fn := fun _ => fun
  | [d] => { results := [.lit (.bool true)], args := [d] }
  | _ => none }
def fnExactIsBalancedRow : OpenClaim := { program := "ytgkgoofapgabhaa", sum := "590d4ca4cf0a855b95158088ab64839e7e87627fad429dc6c24d052f07fba368", func := "loop.example/g03106/laws.FnExactIsBalanced", spec := "fnExactIsBalanced", apart := false }
def FnExactIsBalancedSaid : Prop := fnExactIsBalancedRow.holds Try.pinned (OpenSpec.ofChange fnExactIsBalancedSpec)

/-- ITS FALSE NEIGHBOUR: 'it returns false'. Refute it at one input. -/
def fnExactIsBalancedWrong : ChangeSpec := { name := "fnExactIsBalanced", fn := fun _ => fun
  | [d] => { results := [.lit (.bool false)], args := [d] }
  | _ => none }
def FnExactIsBalancedWrongFalsely : Prop := fnExactIsBalancedRow.holds Try.pinned (OpenSpec.ofChange fnExactIsBalancedWrong)

/-- 'laws.FnExactPrimesUpTo': WHATEVER THE INPUT: true; the input reads as it did. -/
def fnExactPrimesUpToSpec : ChangeSpec := { name := "fnExactPrimesUpTo", fn := fun _ => fun
  | [d] => { results := [.lit (.bool true)], args := [d] }
  | _ => none }
def fnExactPrimesUpToRow : OpenClaim := { program := "ytgkgoofapgabhaa", sum := "590d4ca4cf0a855b95158088ab64839e7e87627fad429dc6c24d052f07fba368", func := "loop.example/g03106/laws.FnExactPrimesUpTo", spec := "fnExactPrimesUpTo", apart := false }
def FnExactPrimesUpToSaid : Prop := fnExactPrimesUpToRow.holds Try.pinned (OpenSpec.ofChange fnExactPrimesUpToSpec)

/-- ITS FALSE NEIGHBOUR: 'it returns false'. Refute it at one input. -/
def fnExactPrimesUpToWrong : ChangeSpec := { name := "fnExactPrimesUpTo", fn := fun _ => fun
  | [d] => { results := [.lit (.bool false)], args := [d] }
  | _ => none }
def FnExactPrimesUpToWrongFalsely : Prop := fnExactPrimesUpToRow.holds Try.pinned (OpenSpec.ofChange fnExactPrimesUpToWrong)

/-- 'laws.FnExactQueensCount': WHATEVER THE INPUT: true; the input reads as it did. -/
def fnExactQueensCountSpec : ChangeSpec := { name := "fnExactQueensCount", fn := fun _ => fun
  | [d] => { results := [.lit (.bool true)], args := [d] }
  | _ => none }
def fnExactQueensCountRow : OpenClaim := { program := "ytgkgoofapgabhaa", sum := "590d4ca4cf0a855b95158088ab64839e7e87627fad429dc6c24d052f07fba368", func := "loop.example/g03106/laws.FnExactQueensCount", spec := "fnExactQueensCount", recurses := true, apart := false }
def FnExactQueensCountSaid : Prop := fnExactQueensCountRow.holds Try.pinned (OpenSpec.ofChange fnExactQueensCountSpec)

/-- ITS FALSE NEIGHBOUR: 'it returns false'. Refute it at one input. -/
def fnExactQueensCountWrong : ChangeSpec := { name := "fnExactQueensCount", fn := fun _ => fun
  | [d] => { results := [.lit (.bool false)], args := [d] }
  | _ => none }
def FnExactQueensCountWrongFalsely : Prop := fnExactQueensCountRow.holds Try.pinned (OpenSpec.ofChange fnExactQueensCountWrong)

/-- 'laws.FnExactWordsOf': WHATEVER THE INPUT: true; the input reads as it did. -/
def fnExactWordsOfSpec : ChangeSpec := { name := "fnExactWordsOf", fn := fun _ => fun
  | [d] => { results := [.lit (.bool true)], args := [d] }
  | _ => none }
def fnExactWordsOfRow : OpenClaim := { program := "ytgkgoofapgabhaa", sum := "590d4ca4cf0a855b95158088ab64839e7e87627fad429dc6c24d052f07fba368", func := "loop.example/g03106/laws.FnExactWordsOf", spec := "fnExactWordsOf", apart := false }
def FnExactWordsOfSaid : Prop := fnExactWordsOfRow.holds Try.pinned (OpenSpec.ofChange fnExactWordsOfSpec)

/-- ITS FALSE NEIGHBOUR: 'it returns false'. Refute it at one input. -/
def fnExactWordsOfWrong : ChangeSpec := { name := "fnExactWordsOf", fn := fun _ => fun
  | [d] => { results := [.lit (.bool false)], args := [d] }
  | _ => none }
def FnExactWordsOfWrongFalsely : Prop := fnExactWordsOfRow.holds Try.pinned (OpenSpec.ofChange fnExactWordsOfWrong)

/-- 'laws.FnExactPermutationsOf': WHATEVER THE INPUT: true; the input reads as it did. -/
def fnExactPermutationsOfSpec : ChangeSpec := { name := "fnExactPermutationsOf", fn := fun _ => fun
  | [d] => { results := [.lit (.bool true)], args := [d] }
  | _ => none }
def fnExactPermutationsOfRow : OpenClaim := { program := "ytgkgoofapgabhaa", sum := "590d4ca4cf0a855b95158088ab64839e7e87627fad429dc6c24d052f07fba368", func := "loop.example/g03106/laws.FnExactPermutationsOf", spec := "fnExactPermutationsOf", recurses := true, apart := false }
def FnExactPermutationsOfSaid : Prop := fnExactPermutationsOfRow.holds Try.pinned (OpenSpec.ofChange fnExactPermutationsOfSpec)

/-- ITS FALSE NEIGHBOUR: 'it returns false'. Refute it at one input. -/
def fnExactPermutationsOfWrong : ChangeSpec := { name := "fnExactPermutationsOf", fn := fun _ => fun
  | [d] => { results := [.lit (.bool false)], args := [d] }
  | _ => none }
def FnExactPermutationsOfWrongFalsely : Prop := fnExactPermutationsOfRow.holds Try.pinned (OpenSpec.ofChange fnExactPermutationsOfWrong)

/-- 'laws.FnExactEqualOutcomes': WHATEVER THE INPUT: true; the input reads as it did. -/
def fnExactEqualOutcomesSpec : ChangeSpec := { name := "fnExactEqualOutcomes", fn := fun _ => fun
  | [d1, d2] => { results := [.lit (.bool true)], args := [d1, d2] }
  | _ => none }
def fnExactEqualOutcomesRow : OpenClaim := { program := "ytgkgoofapgabhaa", sum := "590d4ca4cf0a855b95158088ab64839e7e87627fad429dc6c24d052f07fba368", func := "loop.example/g03106/laws.FnExactEqualOutcomes", spec := "fnExactEqualOutcomes", apart := false }
def FnExactEqualOutcomesSaid : Prop := fnExactEqualOutcomesRow.holds Try.pinned (OpenSpec.ofChange fnExactEqualOutcomesSpec)

/-- ITS FALSE NEIGHBOUR: 'it returns false'. Refute it at one input. -/
def fnExactEqualOutcomesWrong : ChangeSpec := { name := "fnExactEqualOutcomes", fn := fun _ => fun
  | [d1, d2] => { results := [.lit (.bool false)], args := [d1, d2] }
  | _ => none }
def FnExactEqualOutcomesWrongFalsely : Prop := fnExactEqualOutcomesRow.holds Try.pinned (OpenSpec.ofChange fnExactEqualOutcomesWrong)

/-- 'laws.FnExactArithmeticOf': WHATEVER THE INPUT: true; the input reads as it did. -/
def fnExactArithmeticOfSpec : ChangeSpec := { name := "fnExactArithmeticOf", fn := fun _ => fun
  | [d] => { results := [.lit (.bool true)], args := [d] }
  | _ => none }
def fnExactArithmeticOfRow : OpenClaim := { program := "ytgkgoofapgabhaa", sum := "590d4ca4cf0a855b95158088ab64839e7e87627fad429dc6c24d052f07fba368", func := "loop.example/g03106/laws.FnExactArithmeticOf", spec := "fnExactArithmeticOf", recurses := true, apart := false }
def FnExactArithmeticOfSaid : Prop := fnExactArithmeticOfRow.holds Try.pinned (OpenSpec.ofChange fnExactArithmeticOfSpec)

/-- ITS FALSE NEIGHBOUR: 'it returns false'. Refute it at one input. -/
def fnExactArithmeticOfWrong : ChangeSpec := { name := "fnExactArithmeticOf", fn := fun _ => fun
  | [d] => { results := [.lit (.bool false)], args := [d] }
  | _ => none }
def FnExactArithmeticOfWrongFalsely : Prop := fnExactArithmeticOfRow.holds Try.pinned (OpenSpec.ofChange fnExactArithmeticOfWrong)

/- THE SECOND FORM. 'bulk': how many values and letters a reading holds, each counted each time it is reached (what is shared counts as often as it is met; a slice's spare places count too). A statement '..UptoSaid' is the law's where the arguments, and the package variables that the reading takes, are together of bulk at most 1048576: NARROWER than '..Said'. Prove '..Said' where nothing that the law and all that it calls make is longer than what came in: it says more and counts as full. Else prove '..UptoSaid'. A law counts once. -/
mutual
def uptoBulk {H : Type} : DataW H → Nat
  | .lit (.string bytes) => bytes.length + 1
  | .lit _ => 1
  | .nil => 1
  | .ptr d => uptoBulk d + 1
  | .slice elems spare => uptoBulkAll elems + uptoBulkAll spare + 1
  | .agg parts => uptoBulkAll parts + 1
  | .iface _ d => uptoBulk d + 1
  | .map entries => uptoBulkEntries entries + 1
  | .held _ => 1
def uptoBulkAll {H : Type} : List (DataW H) → Nat
  | [] => 0
  | d :: r => uptoBulk d + uptoBulkAll r
def uptoBulkEntries {H : Type} : List (Lit × DataW H) → Nat
  | [] => 0
  | x :: r => uptoBulkEntry x + uptoBulkEntries r
def uptoBulkEntry {H : Type} : Lit × DataW H → Nat
  | (.string bytes, d) => bytes.length + uptoBulk d + 1
  | (_, d) => uptoBulk d + 1
 end
def uptoSmall : (H : Type) → List (DataW H) → Bool := fun _ ds => decide (uptoBulkAll ds ≤ 1048576)
def OpenSpec.upto (s : _root_.Go.ChangeSpec) : _root_.Go.OpenSpec := { _root_.Go.OpenSpec.ofChange s with cond := some uptoSmall }

/-- 'laws.FnExactIsBalanced', WHERE WHAT IT READS IS OF BULK AT MOST 1048576: true; the input reads as it did. -/
def fnExactIsBalancedUptoRow : OpenClaim := { program := "ytgkgoofapgabhaa", sum := "590d4ca4cf0a855b95158088ab64839e7e87627fad429dc6c24d052f07fba368", func := "loop.example/g03106/laws.FnExactIsBalanced", spec := "fnExactIsBalanced", apart := false, narrowed := true }
def FnExactIsBalancedUptoSaid : Prop := fnExactIsBalancedUptoRow.holds Try.pinned (OpenSpec.upto fnExactIsBalancedSpec)

/-- 'laws.FnExactPrimesUpTo', WHERE WHAT IT READS IS OF BULK AT MOST 1048576: true; the input reads as it did. -/
def fnExactPrimesUpToUptoRow : OpenClaim := { program := "ytgkgoofapgabhaa", sum := "590d4ca4cf0a855b95158088ab64839e7e87627fad429dc6c24d052f07fba368", func := "loop.example/g03106/laws.FnExactPrimesUpTo", spec := "fnExactPrimesUpTo", apart := false, narrowed := true }
def FnExactPrimesUpToUptoSaid : Prop := fnExactPrimesUpToUptoRow.holds Try.pinned (OpenSpec.upto fnExactPrimesUpToSpec)

/-- 'laws.FnExactQueensCount', WHERE WHAT IT READS IS OF BULK AT MOST 1048576: true; the input reads as it did. -/
def fnExactQueensCountUptoRow : OpenClaim := { program := "ytgkgoofapgabhaa", sum := "590d4ca4cf0a855b95158088ab64839e7e87627fad429dc6c24d052f07fba368", func := "loop.example/g03106/laws.FnExactQueensCount", spec := "fnExactQueensCount", recurses := true, apart := false, narrowed := true }
def FnExactQueensCountUptoSaid : Prop := fnExactQueensCountUptoRow.holds Try.pinned (OpenSpec.upto fnExactQueensCountSpec)

/-- 'laws.FnExactWordsOf', WHERE WHAT IT READS IS OF BULK AT MOST 1048576: true; the input reads as it did. -/
def fnExactWordsOfUptoRow : OpenClaim := { program := "ytgkgoofapgabhaa", sum := "590d4ca4cf0a855b95158088ab64839e7e87627fad429dc6c24d052f07fba368", func := "loop.example/g03106/laws.FnExactWordsOf", spec := "fnExactWordsOf", apart := false, narrowed := true }
def FnExactWordsOfUptoSaid : Prop := fnExactWordsOfUptoRow.holds Try.pinned (OpenSpec.upto fnExactWordsOfSpec)

/-- 'laws.FnExactPermutationsOf', WHERE WHAT IT READS IS OF BULK AT MOST 1048576: true; the input reads as it did. -/
def fnExactPermutationsOfUptoRow : OpenClaim := { program := "ytgkgoofapgabhaa", sum := "590d4ca4cf0a855b95158088ab64839e7e87627fad429dc6c24d052f07fba368", func := "loop.example/g03106/laws.FnExactPermutationsOf", spec := "fnExactPermutationsOf", recurses := true, apart := false, narrowed := true }
def FnExactPermutationsOfUptoSaid : Prop := fnExactPermutationsOfUptoRow.holds Try.pinned (OpenSpec.upto fnExactPermutationsOfSpec)

/-- 'laws.FnExactEqualOutcomes', WHERE WHAT IT READS IS OF BULK AT MOST 1048576: true; the input reads as it did. -/
def fnExactEqualOutcomesUptoRow : OpenClaim := { program := "ytgkgoofapgabhaa", sum := "590d4ca4cf0a855b95158088ab64839e7e87627fad429dc6c24d052f07fba368", func := "loop.example/g03106/laws.FnExactEqualOutcomes", spec := "fnExactEqualOutcomes", apart := false, narrowed := true }
def FnExactEqualOutcomesUptoSaid : Prop := fnExactEqualOutcomesUptoRow.holds Try.pinned (OpenSpec.upto fnExactEqualOutcomesSpec)

/-- 'laws.FnExactArithmeticOf', WHERE WHAT IT READS IS OF BULK AT MOST 1048576: true; the input reads as it did. -/
def fnExactArithmeticOfUptoRow : OpenClaim := { program := "ytgkgoofapgabhaa", sum := "590d4ca4cf0a855b95158088ab64839e7e87627fad429dc6c24d052f07fba368", func := "loop.example/g03106/laws.FnExactArithmeticOf", spec := "fnExactArithmeticOf", recurses := true, apart := false, narrowed := true }
def FnExactArithmeticOfUptoSaid : Prop := fnExactArithmeticOfUptoRow.holds Try.pinned (OpenSpec.upto fnExactArithmeticOfSpec)

end Rows
end Go.Proofs.Ytgkgoofapgabhaa
