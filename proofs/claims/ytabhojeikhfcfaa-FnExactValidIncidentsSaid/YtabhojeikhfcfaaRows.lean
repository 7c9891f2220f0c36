/-
  No cell of these rows narrows 'for every input' (looked for: loops, veiled, ifaces, maps, wideKeys, modest, calm, conditions, laid).
  DERIVED. THE GIVEN ROWS OF THIS SEAT. 7 by the template 'for every input the law returns true; each argument reads behind the call as it read before'; 0 by the template 'total and deterministic' (their statements: YtabhojeikhfcfaaTotals.lean).
  GIVEN WITH THE SEED: the statements are not yours to turn. If you find one false, say at which input.
  Laid BY PROGRAM, IN A SANDBOX (cutbox-rows.mjs): the forced cells as the released guide's own fill.sh prints them over the translation a0457d3702550304… (all of the seat's roots in one cut). By AI agents, Wed Nov 11 2026. No macro, syntax, notation, axiom, sorry.
-/
import Derived.Test.YtabhojeikhfcfaaChecked
import GoSem.Claim
import GoSem.ClaimJoined
import GoSem.ClaimMapViews
import Derived.JoinedTies
import Derived.KernelRfl
namespace Go.Proofs.Ytabhojeikhfcfaa
/- THE CELL 'sum', in the pinned program and in every row, IS THE sha256 OF THE DUMP (.gsa) THAT YtabhojeikhfcfaaProg.lean LOADS. Nothing in Lean hashes anything: it is a label: what it is worth is what the hold of that sum in a sandbox is worth. -/
noncomputable def Try.pinned : Pinned := { name := "ytabhojeikhfcfaa", sum := "a0457d37025503043562db0500bc6bd9bd650702868663c4791b7bdf6754c236", checked := Try.checked }
namespace Rows
def none {H : Type} : Left H := { results := [], args := [] }

/-- 'laws.FnExactBuriedShare': WHATEVER THE INPUT: true; the input reads as it did. -/
def fnExactBuriedShareSpec : ChangeSpec := { name := "fnExactBuriedShare", fn := fun _ => fun
  | [d1, d2] => { results := [.lit (.bool true)], args := [d1, d2] }
  | _ => none }
def fnExactBuriedShareRow : OpenClaim := { program := "ytabhojeikhfcfaa", sum := "a0457d37025503043562db0500bc6bd9bd650702868663c4791b7bdf6754c236", func := "loop.example/g01013/laws.FnExactBuriedShare", spec := "fnExactBuriedShare", apart := false }
def FnExactBuriedShareSaid : Prop := fnExactBuriedShareRow.holds Try.pinned (OpenSpec.ofChange fnExactBuriedShareSpec)

/-- ITS FALSE NEIGHBOUR: 'it returns false'. Refute it at one input. -/
def fnExactBuriedShareWrong : ChangeSpec := { name := "fnExactBuriedShare", fn := fun _ => fun
  | [d1, d2] => { results := [.lit (.bool false)], args := [d1, d2] }
  | _ => none }
def FnExactBuriedShareWrongFalsely : Prop := fnExactBuriedShareRow.holds Try.pinned (OpenSpec.ofChange fnExactBuriedShareWrong)

/-- 'laws.FnExactCalmDays': WHATEVER THE INPUT: true; the input reads as it did. -/
def fnExactCalmDaysSpec : ChangeSpec := { name := "fnExactCalmDays", fn := fun _ => fun
  | [d1, d2, d3] => { results := [.lit (.bool true)], args := [d1, d2, d3] }
  | _ => none }
def fnExactCalmDaysRow : OpenClaim := { program := "ytabhojeikhfcfaa", sum := "a0457d37025503043562db0500bc6bd9bd650702868663c4791b7bdf6754c236", func := "loop.example/g01013/laws.FnExactCalmDays", spec := "fnExactCalmDays", unfollowed := true, recurses := true, apart := false }
def FnExactCalmDaysSaid : Prop := fnExactCalmDaysRow.holds Try.pinned (OpenSpec.ofChange fnExactCalmDaysSpec)

/-- ITS FALSE NEIGHBOUR: 'it returns false'. Refute it at one input. -/
def fnExactCalmDaysWrong : ChangeSpec := { name := "fnExactCalmDays", fn := fun _ => fun
  | [d1, d2, d3] => { results := [.lit (.bool false)], args := [d1, d2, d3] }
  | _ => none }
def FnExactCalmDaysWrongFalsely : Prop := fnExactCalmDaysRow.holds Try.pinned (OpenSpec.ofChange fnExactCalmDaysWrong)

/-- 'laws.FnExactMostDangerous': WHATEVER THE INPUT: true; the input reads as it did. -/
def fnExactMostDangerousSpec : ChangeSpec := { name := "fnExactMostDangerous", fn := fun _ => fun
  | [d1, d2] => { results := [.lit (.bool true)], args := [d1, d2] }
  | _ => none }
def fnExactMostDangerousRow : OpenClaim := { program := "ytabhojeikhfcfaa", sum := "a0457d37025503043562db0500bc6bd9bd650702868663c4791b7bdf6754c236", func := "loop.example/g01013/laws.FnExactMostDangerous", spec := "fnExactMostDangerous", unfollowed := true, recurses := true, apart := false }
def FnExactMostDangerousSaid : Prop := fnExactMostDangerousRow.holds Try.pinned (OpenSpec.ofChange fnExactMostDangerousSpec)

/-- ITS FALSE NEIGHBOUR: 'it returns false'. Refute it at one input. -/
def fnExactMostDangerousWrong : ChangeSpec := { name := "fnExactMostDangerous", fn := fun _ => fun
  | [d1, d2] => { results := [.lit (.bool false)], args := [d1, d2] }
  | _ => none }
def FnExactMostDangerousWrongFalsely : Prop := fnExactMostDangerousRow.holds Try.pinned (OpenSpec.ofChange fnExactMostDangerousWrong)

/-- 'laws.FnExactRateOf': WHATEVER THE INPUT: true; the input reads as it did. -/
def fnExactRateOfSpec : ChangeSpec := { name := "fnExactRateOf", fn := fun _ => fun
  | [d1, d2, d3] => { results := [.lit (.bool true)], args := [d1, d2, d3] }
  | _ => none }
def fnExactRateOfRow : OpenClaim := { program := "ytabhojeikhfcfaa", sum := "a0457d37025503043562db0500bc6bd9bd650702868663c4791b7bdf6754c236", func := "loop.example/g01013/laws.FnExactRateOf", spec := "fnExactRateOf", apart := false }
def FnExactRateOfSaid : Prop := fnExactRateOfRow.holds Try.pinned (OpenSpec.ofChange fnExactRateOfSpec)

/-- ITS FALSE NEIGHBOUR: 'it returns false'. Refute it at one input. -/
def fnExactRateOfWrong : ChangeSpec := { name := "fnExactRateOf", fn := fun _ => fun
  | [d1, d2, d3] => { results := [.lit (.bool false)], args := [d1, d2, d3] }
  | _ => none }
def FnExactRateOfWrongFalsely : Prop := fnExactRateOfRow.holds Try.pinned (OpenSpec.ofChange fnExactRateOfWrong)

/-- 'laws.FnExactValidIncidents': WHATEVER THE INPUT: true; the input reads as it did. -/
def fnExactValidIncidentsSpec : ChangeSpec := { name := "fnExactValidIncidents", fn := fun _ => fun
  | [d] => { results := [.lit (.bool true)], args := [d] }
  | _ => none }
def fnExactValidIncidentsRow : OpenClaim := { program := "ytabhojeikhfcfaa", sum := "a0457d37025503043562db0500bc6bd9bd650702868663c4791b7bdf6754c236", func := "loop.example/g01013/laws.FnExactValidIncidents", spec := "fnExactValidIncidents", apart := false }
def FnExactValidIncidentsSaid : Prop := fnExactValidIncidentsRow.holds Try.pinned (OpenSpec.ofChange fnExactValidIncidentsSpec)

/-- ITS FALSE NEIGHBOUR: 'it returns false'. Refute it at one input. -/
def fnExactValidIncidentsWrong : ChangeSpec := { name := "fnExactValidIncidents", fn := fun _ => fun
  | [d] => { results := [.lit (.bool false)], args := [d] }
  | _ => none }
def FnExactValidIncidentsWrongFalsely : Prop := fnExactValidIncidentsRow.holds Try.pinned (OpenSpec.ofChange fnExactValidIncidentsWrong)

/-- 'laws.FnExactWithinDays': WHATEVER THE INPUT: true; the input reads as it did. -/
def fnExactWithinDaysSpec : ChangeSpec := { name := "fnExactWithinDays", fn := fun _ => fun
  | [d1, d2] => { results := [.lit (.bool true)], args := [d1, d2] }
  | _ => none }
def fnExactWithinDaysRow : OpenClaim := { program := "ytabhojeikhfcfaa", sum := "a0457d37025503043562db0500bc6bd9bd650702868663c4791b7bdf6754c236", func := "loop.example/g01013/laws.FnExactWithinDays", spec := "fnExactWithinDays", apart := false }
def FnExactWithinDaysSaid : Prop := fnExactWithinDaysRow.holds Try.pinned (OpenSpec.ofChange fnExactWithinDaysSpec)

/-- ITS FALSE NEIGHBOUR: 'it returns false'. Refute it at one input. -/
def fnExactWithinDaysWrong : ChangeSpec := { name := "fnExactWithinDays", fn := fun _ => fun
  | [d1, d2] => { results := [.lit (.bool false)], args := [d1, d2] }
  | _ => none }
def FnExactWithinDaysWrongFalsely : Prop := fnExactWithinDaysRow.holds Try.pinned (OpenSpec.ofChange fnExactWithinDaysWrong)

/-- 'laws.FnExactWorstOf': WHATEVER THE INPUT: true; the input reads as it did. -/
def fnExactWorstOfSpec : ChangeSpec := { name := "fnExactWorstOf", fn := fun _ => fun
  | [d] => { results := [.lit (.bool true)], args := [d] }
  | _ => none }
def fnExactWorstOfRow : OpenClaim := { program := "ytabhojeikhfcfaa", sum := "a0457d37025503043562db0500bc6bd9bd650702868663c4791b7bdf6754c236", func := "loop.example/g01013/laws.FnExactWorstOf", spec := "fnExactWorstOf", apart := false }
def FnExactWorstOfSaid : Prop := fnExactWorstOfRow.holds Try.pinned (OpenSpec.ofChange fnExactWorstOfSpec)

/-- ITS FALSE NEIGHBOUR: 'it returns false'. Refute it at one input. -/
def fnExactWorstOfWrong : ChangeSpec := { name := "fnExactWorstOf", fn := fun _ => fun
  | [d] => { results := [.lit (.bool false)], args := [d] }
  | _ => none }
def FnExactWorstOfWrongFalsely : Prop := fnExactWorstOfRow.holds Try.pinned (OpenSpec.ofChange fnExactWorstOfWrong)

/- THE SECOND FORM. 'bulk': how many values and letters a reading holds, each counted each time it is reached (what is shared counts as often as it is met; a slice's spare places count too). A statement '..UptoSaid' is the law's where the arguments, and the package variables that the reading takes, are together of bulk at most 1048576: NARROWER than '..Said'. Prove '..Said' where nothing that the law and all that it calls make is longer than what came in: it says more and counts as full. Else prove '..UptoSaid'. A law counts once. -/
mutual
def uptoBulk {H : Type} : DataW H → Nat
  | .lit (.string bytes) => bytes.length + 1
  | .lit _ => 1
  | .nil => 1
  | .ptr d => uptoBulk d + 1
  | .slice elems spare => uptoBulkAll elems + uptoBulkAll spare + 1
  | .agg parts => uptoBulkAll parts + 1
  | .iface _ d => uptoBulk d + 1
  | .map entries => uptoBulkEntries entries + 1
  | .held _ => 1
def uptoBulkAll {H : Type} : List (DataW H) → Nat
  | [] => 0
  | d :: r => uptoBulk d + uptoBulkAll r
def uptoBulkEntries {H : Type} : List (Lit × DataW H) → Nat
  | [] => 0
  | x :: r => uptoBulkEntry x + uptoBulkEntries r
def uptoBulkEntry {H : Type} : Lit × DataW H → Nat
  | (.string bytes, d) => bytes.length + uptoBulk d + 1
  | (_, d) => uptoBulk d + 1
 end
def uptoSmall : (H : Type) → List (DataW H) → Bool := fun _ ds => decide (uptoBulkAll ds ≤ 1048576)
def OpenSpec.upto (s : _root_.Go.ChangeSpec) : _root_.Go.OpenSpec := { _root_.Go.OpenSpec.ofChange s with cond := some uptoSmall }

/-- 'laws.FnExactBuriedShare', WHERE WHAT IT READS IS OF BULK AT MOST 1048576: true; the input reads as it did. -/
def fnExactBuriedShareUptoRow : OpenClaim := { program := "ytabhojeikhfcfaa", sum := "a0457d37025503043562db0500bc6bd9bd650702868663c4791b7bdf6754c236", func := "loop.example/g01013/laws.FnExactBuriedShare", spec := "fnExactBuriedShare", apart := false, narrowed := true }
def FnExactBuriedShareUptoSaid : Prop := fnExactBuriedShareUptoRow.holds Try.pinned (OpenSpec.upto fnExactBuriedShareSpec)

/-- 'laws.FnExactCalmDays', WHERE WHAT IT READS IS OF BULK AT MOST 1048576: true; the input reads as it did. -/
def fnExactCalmDaysUptoRow : OpenClaim := { program := "ytabhojeikhfcfaa", sum := "a0457d37025503043562db0500bc6bd9bd650702868663c4791b7bdf6754c236", func := "loop.example/g01013/laws.FnExactCalmDays", spec := "fnExactCalmDays", unfollowed := true, recurses := true, apart := false, narrowed := true }
def FnExactCalmDaysUptoSaid : Prop := fnExactCalmDaysUptoRow.holds Try.pinned (OpenSpec.upto fnExactCalmDaysSpec)

/-- 'laws.FnExactMostDangerous', WHERE WHAT IT READS IS OF BULK AT MOST 1048576: true; the input reads as it did. -/
def fnExactMostDangerousUptoRow : OpenClaim := { program := "ytabhojeikhfcfaa", sum := "a0457d37025503043562db0500bc6bd9bd650702868663c4791b7bdf6754c236", func := "loop.example/g01013/laws.FnExactMostDangerous", spec := "fnExactMostDangerous", unfollowed := true, recurses := true, apart := false, narrowed := true }
def FnExactMostDangerousUptoSaid : Prop := fnExactMostDangerousUptoRow.holds Try.pinned (OpenSpec.upto fnExactMostDangerousSpec)

/-- 'laws.FnExactRateOf', WHERE WHAT IT READS IS OF BULK AT MOST 1048576: true; the input reads as it did. -/
def fnExactRateOfUptoRow : OpenClaim := { program := "ytabhojeikhfcfaa", sum := "a0457d37025503043562db0500bc6bd9bd650702868663c4791b7bdf6754c236", func := "loop.example/g01013/laws.FnExactRateOf", spec := "fnExactRateOf", apart := false, narrowed := true }
def FnExactRateOfUptoSaid : Prop := fnExactRateOfUptoRow.holds Try.pinned (OpenSpec.upto fnExactRateOfSpec)

/-- 'laws.FnExactValidIncidents', WHERE WHAT IT READS IS OF BULK AT MOST 1048576: true; the input reads as it did. -/
def fnExactValidIncidentsUptoRow : OpenClaim := { program := "ytabhojeikhfcfaa", sum := "a0457d37025503043562db0500bc6bd9bd650702868663c4791b7bdf6754c236", func := "loop.example/g01013/laws.FnExactValidIncidents", spec := "fnExactValidIncidents", apart := false, narrowed := true }
def FnExactValidIncidentsUptoSaid : Prop := fnExactValidIncidentsUptoRow.holds Try.pinned (OpenSpec.upto fnExactValidIncidentsSpec)

/-- 'laws.FnExactWithinDays', WHERE WHAT IT READS IS OF BULK AT MOST 1048576: true; the input reads as it did. -/
def fnExactWithinDaysUptoRow : OpenClaim := { program := "ytabhojeikhfcfaa", sum := "a0457d37025503043562db0500bc6bd9bd650702868663c4791b7bdf6754c236", func := "loop.example/g01013/laws.FnExactWithinDays", spec := "fnExactWithinDays", apart := false, narrowed := true }
def FnExactWithinDaysUptoSaid : Prop := fnExactWithinDaysUptoRow.holds Try.pinned (OpenSpec.upto fnExactWithinDaysSpec)

/-- 'laws.FnExactWorstOf', WHERE WHAT IT READS IS OF BULK AT MOST 1048576: true; the input reads as it did. -/
def fnExactWorstOfUptoRow : OpenClaim := { program := "ytabhojeikhfcfaa", sum := "a0457d37025503043562db0500bc6bd9bd650702868663c4791b7bdf6754c236", func := "loop.example/g01013/laws.FnExactWorstOf", spec := "fnExactWorstOf", apart := false, narrowed := true }
def FnExactWorstOfUptoSaid : Prop := fnExactWorstOfUptoRow.holds Try.pinned (OpenSpec.upto fnExactWorstOfSpec)

end Rows
end Go.Proofs.Ytabhojeikhfcfaa
