/-
  No cell of these rows narrows 'for every input' (looked for: loops, veiled, ifaces, maps, wideKeys, modest, calm, conditions, laid).
  DERIVED. THE GIVEN ROWS OF THIS SEAT. 5 by the template 'for every input the law returns true; each argument reads behind the call as it read before'; 0 by the template 'total and deterministic' (their statements: YtlicpgmcnebpmaaTotals.lean).
  GIVEN WITH THE SEED: the statements are not yours to turn. If you find one false, say at which input.
  Laid BY PROGRAM, IN A SANDBOX (cutbox-rows.mjs): the forced cells as the released guide's own fill.sh prints them over the translation f0fed7580af943b6… (all of the seat's roots in one cut). By AI agents, Wed Nov 11 2026. No macro, syntax, notation, axiom, sorry.
-/
import Derived.Test.YtlicpgmcnebpmaaChecked
import GoSem.Claim
import GoSem.ClaimJoined
import GoSem.ClaimMapViews
import Derived.JoinedTies
import Derived.KernelRfl
namespace Go.Proofs.Ytlicpgmcnebpmaa
/- THE CELL 'sum', in the pinned program and in every row, IS THE sha256 OF THE DUMP (.gsa) THAT YtlicpgmcnebpmaaProg.lean LOADS. Nothing in Lean hashes anything: it is a label: what it is worth is what the hold of that sum in a sandbox is worth. -/
noncomputable def Try.pinned : Pinned := { name := "ytlicpgmcnebpmaa", sum := "f0fed7580af943b6e28f07a6a1f31014561e18c765cbcbf0cce099ca89b46a7b", checked := Try.checked }
namespace Rows
def none {H : Type} : Left H := { results := [], args := [] }

/-- 'laws.FnExactAgreeOf': WHATEVER THE INPUT: true; the input reads as it did. -/
def fnExactAgreeOfSpec : ChangeSpec := { name := "fnExactAgreeOf", fn := fun _ => fun
  | [d] => { results := [.lit (.bool true)], args := [d] }
  | _ => none }
def fnExactAgreeOfRow : OpenClaim := { program := "ytlicpgmcnebpmaa", sum := "f0fed7580af943b6e28f07a6a1f31014561e18c765cbcbf0cce099ca89b46a7b", func := "loop.example/g01013/laws.FnExactAgreeOf", spec := "fnExactAgreeOf", apart := false }
def FnExactAgreeOfSaid : Prop := fnExactAgreeOfRow.holds Try.pinned (OpenSpec.ofChange fnExactAgreeOfSpec)

/-- ITS FALSE NEIGHBOUR: 'it returns false'. Refute it at one input. -/
def fnExactAgreeOfWrong : ChangeSpec := { name := "fnExactAgreeOf", fn := fun _ => fun
  | [d] => { results := [.lit (.bool false)], args := [d] }
  | _ => none }
def FnExactAgreeOfWrongFalsely : Prop := fnExactAgreeOfRow.holds Try.pinned (OpenSpec.ofChange fnExactAgreeOfWrong)

/-- 'laws.FnExactContradictTests': WHATEVER THE INPUT: true; the input reads as it did. -/
def fnExactContradictTestsSpec : ChangeSpec := { name := "fnExactContradictTests", fn := fun _ => fun
  | [d1, d2] => { results := [.lit (.bool true)], args := [d1, d2] }
  | _ => none }
def fnExactContradictTestsRow : OpenClaim := { program := "ytlicpgmcnebpmaa", sum := "f0fed7580af943b6e28f07a6a1f31014561e18c765cbcbf0cce099ca89b46a7b", func := "loop.example/g01013/laws.FnExactContradictTests", spec := "fnExactContradictTests", apart := false }
def FnExactContradictTestsSaid : Prop := fnExactContradictTestsRow.holds Try.pinned (OpenSpec.ofChange fnExactContradictTestsSpec)

/-- ITS FALSE NEIGHBOUR: 'it returns false'. Refute it at one input. -/
def fnExactContradictTestsWrong : ChangeSpec := { name := "fnExactContradictTests", fn := fun _ => fun
  | [d1, d2] => { results := [.lit (.bool false)], args := [d1, d2] }
  | _ => none }
def FnExactContradictTestsWrongFalsely : Prop := fnExactContradictTestsRow.holds Try.pinned (OpenSpec.ofChange fnExactContradictTestsWrong)

/-- 'laws.FnExactMeanClass': WHATEVER THE INPUT: true; the input reads as it did. -/
def fnExactMeanClassSpec : ChangeSpec := { name := "fnExactMeanClass", fn := fun _ => fun
  | [d1, d2, d3] => { results := [.lit (.bool true)], args := [d1, d2, d3] }
  | _ => none }
def fnExactMeanClassRow : OpenClaim := { program := "ytlicpgmcnebpmaa", sum := "f0fed7580af943b6e28f07a6a1f31014561e18c765cbcbf0cce099ca89b46a7b", func := "loop.example/g01013/laws.FnExactMeanClass", spec := "fnExactMeanClass", apart := false }
def FnExactMeanClassSaid : Prop := fnExactMeanClassRow.holds Try.pinned (OpenSpec.ofChange fnExactMeanClassSpec)

/-- ITS FALSE NEIGHBOUR: 'it returns false'. Refute it at one input. -/
def fnExactMeanClassWrong : ChangeSpec := { name := "fnExactMeanClass", fn := fun _ => fun
  | [d1, d2, d3] => { results := [.lit (.bool false)], args := [d1, d2, d3] }
  | _ => none }
def FnExactMeanClassWrongFalsely : Prop := fnExactMeanClassRow.holds Try.pinned (OpenSpec.ofChange fnExactMeanClassWrong)

/-- 'laws.FnExactRecentTests': WHATEVER THE INPUT: true; the input reads as it did. -/
def fnExactRecentTestsSpec : ChangeSpec := { name := "fnExactRecentTests", fn := fun _ => fun
  | [d1, d2, d3] => { results := [.lit (.bool true)], args := [d1, d2, d3] }
  | _ => none }
def fnExactRecentTestsRow : OpenClaim := { program := "ytlicpgmcnebpmaa", sum := "f0fed7580af943b6e28f07a6a1f31014561e18c765cbcbf0cce099ca89b46a7b", func := "loop.example/g01013/laws.FnExactRecentTests", spec := "fnExactRecentTests", apart := false }
def FnExactRecentTestsSaid : Prop := fnExactRecentTestsRow.holds Try.pinned (OpenSpec.ofChange fnExactRecentTestsSpec)

/-- ITS FALSE NEIGHBOUR: 'it returns false'. Refute it at one input. -/
def fnExactRecentTestsWrong : ChangeSpec := { name := "fnExactRecentTests", fn := fun _ => fun
  | [d1, d2, d3] => { results := [.lit (.bool false)], args := [d1, d2, d3] }
  | _ => none }
def FnExactRecentTestsWrongFalsely : Prop := fnExactRecentTestsRow.holds Try.pinned (OpenSpec.ofChange fnExactRecentTestsWrong)

/-- 'laws.FnExactWorstClass': WHATEVER THE INPUT: true; the input reads as it did. -/
def fnExactWorstClassSpec : ChangeSpec := { name := "fnExactWorstClass", fn := fun _ => fun
  | [d] => { results := [.lit (.bool true)], args := [d] }
  | _ => none }
def fnExactWorstClassRow : OpenClaim := { program := "ytlicpgmcnebpmaa", sum := "f0fed7580af943b6e28f07a6a1f31014561e18c765cbcbf0cce099ca89b46a7b", func := "loop.example/g01013/laws.FnExactWorstClass", spec := "fnExactWorstClass", apart := false }
def FnExactWorstClassSaid : Prop := fnExactWorstClassRow.holds Try.pinned (OpenSpec.ofChange fnExactWorstClassSpec)

/-- ITS FALSE NEIGHBOUR: 'it returns false'. Refute it at one input. -/
def fnExactWorstClassWrong : ChangeSpec := { name := "fnExactWorstClass", fn := fun _ => fun
  | [d] => { results := [.lit (.bool false)], args := [d] }
  | _ => none }
def FnExactWorstClassWrongFalsely : Prop := fnExactWorstClassRow.holds Try.pinned (OpenSpec.ofChange fnExactWorstClassWrong)

/- THE SECOND FORM. 'bulk': how many values and letters a reading holds, each counted each time it is reached (what is shared counts as often as it is met; a slice's spare places count too). A statement '..UptoSaid' is the law's where the arguments, and the package variables that the reading takes, are together of bulk at most 1048576: NARROWER than '..Said'. Prove '..Said' where nothing that the law and all that it calls make is longer than what came in: it says more and counts as full. Else prove '..UptoSaid'. A law counts once. -/
mutual
def uptoBulk {H : Type} : DataW H → Nat
  | .lit (.string bytes) => bytes.length + 1
  | .lit _ => 1
  | .nil => 1
  | .ptr d => uptoBulk d + 1
  | .slice elems spare => uptoBulkAll elems + uptoBulkAll spare + 1
  | .agg parts => uptoBulkAll parts + 1
  | .iface _ d => uptoBulk d + 1
  | .map entries => uptoBulkEntries entries + 1
  | .held _ => 1
def uptoBulkAll {H : Type} : List (DataW H) → Nat
  | [] => 0
  | d :: r => uptoBulk d + uptoBulkAll r
def uptoBulkEntries {H : Type} : List (Lit × DataW H) → Nat
  | [] => 0
  | x :: r => uptoBulkEntry x + uptoBulkEntries r
def uptoBulkEntry {H : Type} : Lit × DataW H → Nat
  | (.string bytes, d) => bytes.length + uptoBulk d + 1
  | (_, d) => uptoBulk d + 1
 end
def uptoSmall : (H : Type) → List (DataW H) → Bool := fun _ ds => decide (uptoBulkAll ds ≤ 1048576)
def OpenSpec.upto (s : _root_.Go.ChangeSpec) : _root_.Go.OpenSpec := { _root_.Go.OpenSpec.ofChange s with cond := some uptoSmall }

/-- 'laws.FnExactAgreeOf', WHERE WHAT IT READS IS OF BULK AT MOST 1048576: true; the input reads as it did. -/
def fnExactAgreeOfUptoRow : OpenClaim := { program := "ytlicpgmcnebpmaa", sum := "f0fed7580af943b6e28f07a6a1f31014561e18c765cbcbf0cce099ca89b46a7b", func := "loop.example/g01013/laws.FnExactAgreeOf", spec := "fnExactAgreeOf", apart := false, narrowed := true }
def FnExactAgreeOfUptoSaid : Prop := fnExactAgreeOfUptoRow.holds Try.pinned (OpenSpec.upto fnExactAgreeOfSpec)

/-- 'laws.FnExactContradictTests', WHERE WHAT IT READS IS OF BULK AT MOST 1048576: true; the input reads as it did. -/
def fnExactContradictTestsUptoRow : OpenClaim := { program := "ytlicpgmcnebpmaa", sum := "f0fed7580af943b6e28f07a6a1f31014561e18c765cbcbf0cce099ca89b46a7b", func := "loop.example/g01013/laws.FnExactContradictTests", spec := "fnExactContradictTests", apart := false, narrowed := true }
def FnExactContradictTestsUptoSaid : Prop := fnExactContradictTestsUptoRow.holds Try.pinned (OpenSpec.upto fnExactContradictTestsSpec)

/-- 'laws.FnExactMeanClass', WHERE WHAT IT READS IS OF BULK AT MOST 1048576: true; the input reads as it did. -/
def fnExactMeanClassUptoRow : OpenClaim := { program := "ytlicpgmcnebpmaa", sum := "f0fed7580af943b6e28f07a6a1f31014561e18c765cbcbf0cce099ca89b46a7b", func := "loop.example/g01013/laws.FnExactMeanClass", spec := "fnExactMeanClass", apart := false, narrowed := true }
def FnExactMeanClassUptoSaid : Prop := fnExactMeanClassUptoRow.holds Try.pinned (OpenSpec.upto fnExactMeanClassSpec)

/-- 'laws.FnExactRecentTests', WHERE WHAT IT READS IS OF BULK AT MOST 1048576: true; the input reads as it did. -/
def fnExactRecentTestsUptoRow : OpenClaim := { program := "ytlicpgmcnebpmaa", sum := "f0fed7580af943b6e28f07a6a1f31014561e18c765cbcbf0cce099ca89b46a7b", func := "loop.example/g01013/laws.FnExactRecentTests", spec := "fnExactRecentTests", apart := false, narrowed := true }
def FnExactRecentTestsUptoSaid : Prop := fnExactRecentTestsUptoRow.holds Try.pinned (OpenSpec.upto fnExactRecentTestsSpec)

/-- 'laws.FnExactWorstClass', WHERE WHAT IT READS IS OF BULK AT MOST 1048576: true; the input reads as it did. -/
def fnExactWorstClassUptoRow : OpenClaim := { program := "ytlicpgmcnebpmaa", sum := "f0fed7580af943b6e28f07a6a1f31014561e18c765cbcbf0cce099ca89b46a7b", func := "loop.example/g01013/laws.FnExactWorstClass", spec := "fnExactWorstClass", apart := false, narrowed := true }
def FnExactWorstClassUptoSaid : Prop := fnExactWorstClassUptoRow.holds Try.pinned (OpenSpec.upto fnExactWorstClassSpec)

end Rows
end Go.Proofs.Ytlicpgmcnebpmaa
