/-
  No cell of these rows narrows 'for every input' (looked for: loops, veiled, ifaces, maps, wideKeys, modest, calm, conditions, laid).
  DERIVED. THE GIVEN ROWS OF THIS SEAT. 5 by the template 'for every input the law returns true; each argument reads behind the call as it read before'; 0 by the template 'total and deterministic' (their statements: YtocipeididkllaaTotals.lean).
  GIVEN WITH THE SEED: the statements are not yours to turn. If you find one false, say at which input.
  Laid BY PROGRAM, IN A SANDBOX (cutbox-rows.mjs): the forced cells as the released guide's own fill.sh prints them over the translation b89b45963b3347ef… (all of the seat's roots in one cut). By AI agents, Wed Nov 11 2026. No macro, syntax, notation, axiom, sorry.
-/
import Derived.Test.YtocipeididkllaaChecked
import GoSem.Claim
import GoSem.ClaimJoined
import GoSem.ClaimMapViews
import Derived.JoinedTies
import Derived.KernelRfl
namespace Go.Proofs.Ytocipeididkllaa
/- THE CELL 'sum', in the pinned program and in every row, IS THE sha256 OF THE DUMP (.gsa) THAT YtocipeididkllaaProg.lean LOADS. Nothing in Lean hashes anything: it is a label: what it is worth is what the hold of that sum in a sandbox is worth. -/
noncomputable def Try.pinned : Pinned := { name := "ytocipeididkllaa", sum := "b89b45963b3347ef835abbe0816190d128c05281b729027fb2feb199bd5a47e2", checked := Try.checked }
namespace Rows
def none {H : Type} : Left H := { results := [], args := [] }

/-- 'laws.FnExactIsShotPlan': WHATEVER THE INPUT: true; the input reads as it did. -/
def fnExactIsShotPlanSpec : ChangeSpec := { name := "fnExactIsShotPlan", fn := fun _ => fun
  | [d1, d2, d3] => { results := [.lit (.bool true)], args := [d1, d2, d3] }
  | _ => none }
def fnExactIsShotPlanRow : OpenClaim := { program := "ytocipeididkllaa", sum := "b89b45963b3347ef835abbe0816190d128c05281b729027fb2feb199bd5a47e2", func := "loop.example/g01013/laws.FnExactIsShotPlan", spec := "fnExactIsShotPlan", apart := false }
def FnExactIsShotPlanSaid : Prop := fnExactIsShotPlanRow.holds Try.pinned (OpenSpec.ofChange fnExactIsShotPlanSpec)

/-- ITS FALSE NEIGHBOUR: 'it returns false'. Refute it at one input. -/
def fnExactIsShotPlanWrong : ChangeSpec := { name := "fnExactIsShotPlan", fn := fun _ => fun
  | [d1, d2, d3] => { results := [.lit (.bool false)], args := [d1, d2, d3] }
  | _ => none }
def FnExactIsShotPlanWrongFalsely : Prop := fnExactIsShotPlanRow.holds Try.pinned (OpenSpec.ofChange fnExactIsShotPlanWrong)

/-- 'laws.FnExactLastEnd': WHATEVER THE INPUT: true; the input reads as it did. -/
def fnExactLastEndSpec : ChangeSpec := { name := "fnExactLastEnd", fn := fun _ => fun
  | [d1, d2, d3] => { results := [.lit (.bool true)], args := [d1, d2, d3] }
  | _ => none }
def fnExactLastEndRow : OpenClaim := { program := "ytocipeididkllaa", sum := "b89b45963b3347ef835abbe0816190d128c05281b729027fb2feb199bd5a47e2", func := "loop.example/g01013/laws.FnExactLastEnd", spec := "fnExactLastEnd", apart := false }
def FnExactLastEndSaid : Prop := fnExactLastEndRow.holds Try.pinned (OpenSpec.ofChange fnExactLastEndSpec)

/-- ITS FALSE NEIGHBOUR: 'it returns false'. Refute it at one input. -/
def fnExactLastEndWrong : ChangeSpec := { name := "fnExactLastEnd", fn := fun _ => fun
  | [d1, d2, d3] => { results := [.lit (.bool false)], args := [d1, d2, d3] }
  | _ => none }
def FnExactLastEndWrongFalsely : Prop := fnExactLastEndRow.holds Try.pinned (OpenSpec.ofChange fnExactLastEndWrong)

/-- 'laws.FnExactShotGain': WHATEVER THE INPUT: true; the input reads as it did. -/
def fnExactShotGainSpec : ChangeSpec := { name := "fnExactShotGain", fn := fun _ => fun
  | [d1, d2] => { results := [.lit (.bool true)], args := [d1, d2] }
  | _ => none }
def fnExactShotGainRow : OpenClaim := { program := "ytocipeididkllaa", sum := "b89b45963b3347ef835abbe0816190d128c05281b729027fb2feb199bd5a47e2", func := "loop.example/g01013/laws.FnExactShotGain", spec := "fnExactShotGain", apart := false }
def FnExactShotGainSaid : Prop := fnExactShotGainRow.holds Try.pinned (OpenSpec.ofChange fnExactShotGainSpec)

/-- ITS FALSE NEIGHBOUR: 'it returns false'. Refute it at one input. -/
def fnExactShotGainWrong : ChangeSpec := { name := "fnExactShotGain", fn := fun _ => fun
  | [d1, d2] => { results := [.lit (.bool false)], args := [d1, d2] }
  | _ => none }
def FnExactShotGainWrongFalsely : Prop := fnExactShotGainRow.holds Try.pinned (OpenSpec.ofChange fnExactShotGainWrong)

/-- 'laws.FnExactDiffStates': WHATEVER THE INPUT: true; the input reads as it did. -/
def fnExactDiffStatesSpec : ChangeSpec := { name := "fnExactDiffStates", fn := fun _ => fun
  | [d1, d2] => { results := [.lit (.bool true)], args := [d1, d2] }
  | _ => none }
def fnExactDiffStatesRow : OpenClaim := { program := "ytocipeididkllaa", sum := "b89b45963b3347ef835abbe0816190d128c05281b729027fb2feb199bd5a47e2", func := "loop.example/g01013/laws.FnExactDiffStates", spec := "fnExactDiffStates", apart := false }
def FnExactDiffStatesSaid : Prop := fnExactDiffStatesRow.holds Try.pinned (OpenSpec.ofChange fnExactDiffStatesSpec)

/-- ITS FALSE NEIGHBOUR: 'it returns false'. Refute it at one input. -/
def fnExactDiffStatesWrong : ChangeSpec := { name := "fnExactDiffStates", fn := fun _ => fun
  | [d1, d2] => { results := [.lit (.bool false)], args := [d1, d2] }
  | _ => none }
def FnExactDiffStatesWrongFalsely : Prop := fnExactDiffStatesRow.holds Try.pinned (OpenSpec.ofChange fnExactDiffStatesWrong)

/-- 'laws.FnExactValidHistory': WHATEVER THE INPUT: true; the input reads as it did. -/
def fnExactValidHistorySpec : ChangeSpec := { name := "fnExactValidHistory", fn := fun _ => fun
  | [d] => { results := [.lit (.bool true)], args := [d] }
  | _ => none }
def fnExactValidHistoryRow : OpenClaim := { program := "ytocipeididkllaa", sum := "b89b45963b3347ef835abbe0816190d128c05281b729027fb2feb199bd5a47e2", func := "loop.example/g01013/laws.FnExactValidHistory", spec := "fnExactValidHistory", apart := false }
def FnExactValidHistorySaid : Prop := fnExactValidHistoryRow.holds Try.pinned (OpenSpec.ofChange fnExactValidHistorySpec)

/-- ITS FALSE NEIGHBOUR: 'it returns false'. Refute it at one input. -/
def fnExactValidHistoryWrong : ChangeSpec := { name := "fnExactValidHistory", fn := fun _ => fun
  | [d] => { results := [.lit (.bool false)], args := [d] }
  | _ => none }
def FnExactValidHistoryWrongFalsely : Prop := fnExactValidHistoryRow.holds Try.pinned (OpenSpec.ofChange fnExactValidHistoryWrong)

/- THE SECOND FORM. 'bulk': how many values and letters a reading holds, each counted each time it is reached (what is shared counts as often as it is met; a slice's spare places count too). A statement '..UptoSaid' is the law's where the arguments, and the package variables that the reading takes, are together of bulk at most 1048576: NARROWER than '..Said'. Prove '..Said' where nothing that the law and all that it calls make is longer than what came in: it says more and counts as full. Else prove '..UptoSaid'. A law counts once. -/
mutual
def uptoBulk {H : Type} : DataW H → Nat
  | .lit (.string bytes) => bytes.length + 1
  | .lit _ => 1
  | .nil => 1
  | .ptr d => uptoBulk d + 1
  | .slice elems spare => uptoBulkAll elems + uptoBulkAll spare + 1
  | .agg parts => uptoBulkAll parts + 1
  | .iface _ d => uptoBulk d + 1
  | .map entries => uptoBulkEntries entries + 1
  | .held _ => 1
def uptoBulkAll {H : Type} : List (DataW H) → Nat
  | [] => 0
  | d :: r => uptoBulk d + uptoBulkAll r
def uptoBulkEntries {H : Type} : List (Lit × DataW H) → Nat
  | [] => 0
  | x :: r => uptoBulkEntry x + uptoBulkEntries r
def uptoBulkEntry {H : Type} : Lit × DataW H → Nat
  | (.string bytes, d) => bytes.length + uptoBulk d + 1
  | (_, d) => uptoBulk d + 1
 end
def uptoSmall : (H : Type) → List (DataW H) → Bool := fun _ ds => decide (uptoBulkAll ds ≤ 1048576)
def OpenSpec.upto (s : _root_.Go.ChangeSpec) : _root_.Go.OpenSpec := { _root_.Go.OpenSpec.ofChange s with cond := some uptoSmall }

/-- 'laws.FnExactIsShotPlan', WHERE WHAT IT READS IS OF BULK AT MOST 1048576: true; the input reads as it did. -/
def fnExactIsShotPlanUptoRow : OpenClaim := { program := "ytocipeididkllaa", sum := "b89b45963b3347ef835abbe0816190d128c05281b729027fb2feb199bd5a47e2", func := "loop.example/g01013/laws.FnExactIsShotPlan", spec := "fnExactIsShotPlan", apart := false, narrowed := true }
def FnExactIsShotPlanUptoSaid : Prop := fnExactIsShotPlanUptoRow.holds Try.pinned (OpenSpec.upto fnExactIsShotPlanSpec)

/-- 'laws.FnExactLastEnd', WHERE WHAT IT READS IS OF BULK AT MOST 1048576: true; the input reads as it did. -/
def fnExactLastEndUptoRow : OpenClaim := { program := "ytocipeididkllaa", sum := "b89b45963b3347ef835abbe0816190d128c05281b729027fb2feb199bd5a47e2", func := "loop.example/g01013/laws.FnExactLastEnd", spec := "fnExactLastEnd", apart := false, narrowed := true }
def FnExactLastEndUptoSaid : Prop := fnExactLastEndUptoRow.holds Try.pinned (OpenSpec.upto fnExactLastEndSpec)

/-- 'laws.FnExactShotGain', WHERE WHAT IT READS IS OF BULK AT MOST 1048576: true; the input reads as it did. -/
def fnExactShotGainUptoRow : OpenClaim := { program := "ytocipeididkllaa", sum := "b89b45963b3347ef835abbe0816190d128c05281b729027fb2feb199bd5a47e2", func := "loop.example/g01013/laws.FnExactShotGain", spec := "fnExactShotGain", apart := false, narrowed := true }
def FnExactShotGainUptoSaid : Prop := fnExactShotGainUptoRow.holds Try.pinned (OpenSpec.upto fnExactShotGainSpec)

/-- 'laws.FnExactDiffStates', WHERE WHAT IT READS IS OF BULK AT MOST 1048576: true; the input reads as it did. -/
def fnExactDiffStatesUptoRow : OpenClaim := { program := "ytocipeididkllaa", sum := "b89b45963b3347ef835abbe0816190d128c05281b729027fb2feb199bd5a47e2", func := "loop.example/g01013/laws.FnExactDiffStates", spec := "fnExactDiffStates", apart := false, narrowed := true }
def FnExactDiffStatesUptoSaid : Prop := fnExactDiffStatesUptoRow.holds Try.pinned (OpenSpec.upto fnExactDiffStatesSpec)

/-- 'laws.FnExactValidHistory', WHERE WHAT IT READS IS OF BULK AT MOST 1048576: true; the input reads as it did. -/
def fnExactValidHistoryUptoRow : OpenClaim := { program := "ytocipeididkllaa", sum := "b89b45963b3347ef835abbe0816190d128c05281b729027fb2feb199bd5a47e2", func := "loop.example/g01013/laws.FnExactValidHistory", spec := "fnExactValidHistory", apart := false, narrowed := true }
def FnExactValidHistoryUptoSaid : Prop := fnExactValidHistoryUptoRow.holds Try.pinned (OpenSpec.upto fnExactValidHistorySpec)

end Rows
end Go.Proofs.Ytocipeididkllaa
