/-
  No cell of these rows narrows 'for every input' (looked for: loops, veiled, ifaces, maps, wideKeys, modest, calm, conditions, laid).
  DERIVED. THE GIVEN ROWS OF THIS SEAT. 8 by the template 'for every input the law returns true; each argument reads behind the call as it read before'; 0 by the template 'total and deterministic' (their statements: YtinijfdopkohfaaTotals.lean).
  GIVEN WITH THE SEED: the statements are not yours to turn. If you find one false, say at which input.
  Laid BY PROGRAM, IN A SANDBOX (cutbox-rows.mjs): the forced cells as the released guide's own fill.sh prints them over the translation 29e927917ddf92a0… (all of the seat's roots in one cut). By AI agents, Wed Nov 11 2026. No macro, syntax, notation, axiom, sorry.
-/
import Derived.Test.YtinijfdopkohfaaChecked
import GoSem.Claim
import GoSem.ClaimJoined
import GoSem.ClaimMapViews
import Derived.JoinedTies
import Derived.KernelRfl
namespace Go.Proofs.Ytinijfdopkohfaa
/- THE CELL 'sum', in the pinned program and in every row, IS THE sha256 OF THE DUMP (.gsa) THAT YtinijfdopkohfaaProg.lean LOADS. Nothing in Lean hashes anything: it is a label: what it is worth is what the hold of that sum in a sandbox is worth. -/
noncomputable def Try.pinned : Pinned := { name := "ytinijfdopkohfaa", sum := "29e927917ddf92a096cddf3c0116977e6a99c78e1eca8bd3f824a5be5f0c0192", checked := Try.checked }
namespace Rows
def none {H : Type} : Left H := { results := [], args := [] }

/-- 'laws.FnExactKitShort': WHATEVER THE INPUT: true; the input reads as it did. -/
def fnExactKitShortSpec : ChangeSpec := { name := "fnExactKitShort", fn := fun _ => fun
  | [d] => { results := [.lit (.bool true)], args := [d] }
  | _ => none }
def fnExactKitShortRow : OpenClaim := { program := "ytinijfdopkohfaa", sum := "29e927917ddf92a096cddf3c0116977e6a99c78e1eca8bd3f824a5be5f0c0192", func := "loop.example/g01013/laws.FnExactKitShort", spec := "fnExactKitShort", unfollowed := true, recurses := true, apart := false }
def FnExactKitShortSaid : Prop := fnExactKitShortRow.holds Try.pinned (OpenSpec.ofChange fnExactKitShortSpec)

/-- ITS FALSE NEIGHBOUR: 'it returns false'. Refute it at one input. -/
def fnExactKitShortWrong : ChangeSpec := { name := "fnExactKitShort", fn := fun _ => fun
  | [d] => { results := [.lit (.bool false)], args := [d] }
  | _ => none }
def FnExactKitShortWrongFalsely : Prop := fnExactKitShortRow.holds Try.pinned (OpenSpec.ofChange fnExactKitShortWrong)

/-- 'laws.FnExactSplitGroup': WHATEVER THE INPUT: true; the input reads as it did. -/
def fnExactSplitGroupSpec : ChangeSpec := { name := "fnExactSplitGroup", fn := fun _ => fun
  | [d1, d2] => { results := [.lit (.bool true)], args := [d1, d2] }
  | _ => none }
def fnExactSplitGroupRow : OpenClaim := { program := "ytinijfdopkohfaa", sum := "29e927917ddf92a096cddf3c0116977e6a99c78e1eca8bd3f824a5be5f0c0192", func := "loop.example/g01013/laws.FnExactSplitGroup", spec := "fnExactSplitGroup", unfollowed := true, recurses := true, apart := false }
def FnExactSplitGroupSaid : Prop := fnExactSplitGroupRow.holds Try.pinned (OpenSpec.ofChange fnExactSplitGroupSpec)

/-- ITS FALSE NEIGHBOUR: 'it returns false'. Refute it at one input. -/
def fnExactSplitGroupWrong : ChangeSpec := { name := "fnExactSplitGroup", fn := fun _ => fun
  | [d1, d2] => { results := [.lit (.bool false)], args := [d1, d2] }
  | _ => none }
def FnExactSplitGroupWrongFalsely : Prop := fnExactSplitGroupRow.holds Try.pinned (OpenSpec.ofChange fnExactSplitGroupWrong)

/-- 'laws.FnExactLendKit': WHATEVER THE INPUT: true; the input reads as it did. -/
def fnExactLendKitSpec : ChangeSpec := { name := "fnExactLendKit", fn := fun _ => fun
  | [d1, d2, d3] => { results := [.lit (.bool true)], args := [d1, d2, d3] }
  | _ => none }
def fnExactLendKitRow : OpenClaim := { program := "ytinijfdopkohfaa", sum := "29e927917ddf92a096cddf3c0116977e6a99c78e1eca8bd3f824a5be5f0c0192", func := "loop.example/g01013/laws.FnExactLendKit", spec := "fnExactLendKit", unfollowed := true, recurses := true, apart := false }
def FnExactLendKitSaid : Prop := fnExactLendKitRow.holds Try.pinned (OpenSpec.ofChange fnExactLendKitSpec)

/-- ITS FALSE NEIGHBOUR: 'it returns false'. Refute it at one input. -/
def fnExactLendKitWrong : ChangeSpec := { name := "fnExactLendKit", fn := fun _ => fun
  | [d1, d2, d3] => { results := [.lit (.bool false)], args := [d1, d2, d3] }
  | _ => none }
def FnExactLendKitWrongFalsely : Prop := fnExactLendKitRow.holds Try.pinned (OpenSpec.ofChange fnExactLendKitWrong)

/-- 'laws.FnExactFirstShut': WHATEVER THE INPUT: true; the input reads as it did. -/
def fnExactFirstShutSpec : ChangeSpec := { name := "fnExactFirstShut", fn := fun _ => fun
  | [d1, d2] => { results := [.lit (.bool true)], args := [d1, d2] }
  | _ => none }
def fnExactFirstShutRow : OpenClaim := { program := "ytinijfdopkohfaa", sum := "29e927917ddf92a096cddf3c0116977e6a99c78e1eca8bd3f824a5be5f0c0192", func := "loop.example/g01013/laws.FnExactFirstShut", spec := "fnExactFirstShut", unfollowed := true, recurses := true, apart := false }
def FnExactFirstShutSaid : Prop := fnExactFirstShutRow.holds Try.pinned (OpenSpec.ofChange fnExactFirstShutSpec)

/-- ITS FALSE NEIGHBOUR: 'it returns false'. Refute it at one input. -/
def fnExactFirstShutWrong : ChangeSpec := { name := "fnExactFirstShut", fn := fun _ => fun
  | [d1, d2] => { results := [.lit (.bool false)], args := [d1, d2] }
  | _ => none }
def FnExactFirstShutWrongFalsely : Prop := fnExactFirstShutRow.holds Try.pinned (OpenSpec.ofChange fnExactFirstShutWrong)

/-- 'laws.FnExactLeastHold': WHATEVER THE INPUT: true; the input reads as it did. -/
def fnExactLeastHoldSpec : ChangeSpec := { name := "fnExactLeastHold", fn := fun _ => fun
  | [d1, d2, d3] => { results := [.lit (.bool true)], args := [d1, d2, d3] }
  | _ => none }
def fnExactLeastHoldRow : OpenClaim := { program := "ytinijfdopkohfaa", sum := "29e927917ddf92a096cddf3c0116977e6a99c78e1eca8bd3f824a5be5f0c0192", func := "loop.example/g01013/laws.FnExactLeastHold", spec := "fnExactLeastHold", unfollowed := true, recurses := true, apart := false }
def FnExactLeastHoldSaid : Prop := fnExactLeastHoldRow.holds Try.pinned (OpenSpec.ofChange fnExactLeastHoldSpec)

/-- ITS FALSE NEIGHBOUR: 'it returns false'. Refute it at one input. -/
def fnExactLeastHoldWrong : ChangeSpec := { name := "fnExactLeastHold", fn := fun _ => fun
  | [d1, d2, d3] => { results := [.lit (.bool false)], args := [d1, d2, d3] }
  | _ => none }
def FnExactLeastHoldWrongFalsely : Prop := fnExactLeastHoldRow.holds Try.pinned (OpenSpec.ofChange fnExactLeastHoldWrong)

/-- 'laws.FnExactOpenGates': WHATEVER THE INPUT: true; the input reads as it did. -/
def fnExactOpenGatesSpec : ChangeSpec := { name := "fnExactOpenGates", fn := fun _ => fun
  | [d] => { results := [.lit (.bool true)], args := [d] }
  | _ => none }
def fnExactOpenGatesRow : OpenClaim := { program := "ytinijfdopkohfaa", sum := "29e927917ddf92a096cddf3c0116977e6a99c78e1eca8bd3f824a5be5f0c0192", func := "loop.example/g01013/laws.FnExactOpenGates", spec := "fnExactOpenGates", apart := false }
def FnExactOpenGatesSaid : Prop := fnExactOpenGatesRow.holds Try.pinned (OpenSpec.ofChange fnExactOpenGatesSpec)

/-- ITS FALSE NEIGHBOUR: 'it returns false'. Refute it at one input. -/
def fnExactOpenGatesWrong : ChangeSpec := { name := "fnExactOpenGates", fn := fun _ => fun
  | [d] => { results := [.lit (.bool false)], args := [d] }
  | _ => none }
def FnExactOpenGatesWrongFalsely : Prop := fnExactOpenGatesRow.holds Try.pinned (OpenSpec.ofChange fnExactOpenGatesWrong)

/-- 'laws.FnExactRunGate': WHATEVER THE INPUT: true; the input reads as it did. -/
def fnExactRunGateSpec : ChangeSpec := { name := "fnExactRunGate", fn := fun _ => fun
  | [d1, d2] => { results := [.lit (.bool true)], args := [d1, d2] }
  | _ => none }
def fnExactRunGateRow : OpenClaim := { program := "ytinijfdopkohfaa", sum := "29e927917ddf92a096cddf3c0116977e6a99c78e1eca8bd3f824a5be5f0c0192", func := "loop.example/g01013/laws.FnExactRunGate", spec := "fnExactRunGate", unfollowed := true, recurses := true, apart := false }
def FnExactRunGateSaid : Prop := fnExactRunGateRow.holds Try.pinned (OpenSpec.ofChange fnExactRunGateSpec)

/-- ITS FALSE NEIGHBOUR: 'it returns false'. Refute it at one input. -/
def fnExactRunGateWrong : ChangeSpec := { name := "fnExactRunGate", fn := fun _ => fun
  | [d1, d2] => { results := [.lit (.bool false)], args := [d1, d2] }
  | _ => none }
def FnExactRunGateWrongFalsely : Prop := fnExactRunGateRow.holds Try.pinned (OpenSpec.ofChange fnExactRunGateWrong)

/-- 'laws.FnExactShutHours': WHATEVER THE INPUT: true; the input reads as it did. -/
def fnExactShutHoursSpec : ChangeSpec := { name := "fnExactShutHours", fn := fun _ => fun
  | [d1, d2] => { results := [.lit (.bool true)], args := [d1, d2] }
  | _ => none }
def fnExactShutHoursRow : OpenClaim := { program := "ytinijfdopkohfaa", sum := "29e927917ddf92a096cddf3c0116977e6a99c78e1eca8bd3f824a5be5f0c0192", func := "loop.example/g01013/laws.FnExactShutHours", spec := "fnExactShutHours", unfollowed := true, recurses := true, apart := false }
def FnExactShutHoursSaid : Prop := fnExactShutHoursRow.holds Try.pinned (OpenSpec.ofChange fnExactShutHoursSpec)

/-- ITS FALSE NEIGHBOUR: 'it returns false'. Refute it at one input. -/
def fnExactShutHoursWrong : ChangeSpec := { name := "fnExactShutHours", fn := fun _ => fun
  | [d1, d2] => { results := [.lit (.bool false)], args := [d1, d2] }
  | _ => none }
def FnExactShutHoursWrongFalsely : Prop := fnExactShutHoursRow.holds Try.pinned (OpenSpec.ofChange fnExactShutHoursWrong)

/- THE SECOND FORM. 'bulk': how many values and letters a reading holds, each counted each time it is reached (what is shared counts as often as it is met; a slice's spare places count too). A statement '..UptoSaid' is the law's where the arguments, and the package variables that the reading takes, are together of bulk at most 1048576: NARROWER than '..Said'. Prove '..Said' where nothing that the law and all that it calls make is longer than what came in: it says more and counts as full. Else prove '..UptoSaid'. A law counts once. -/
mutual
def uptoBulk {H : Type} : DataW H → Nat
  | .lit (.string bytes) => bytes.length + 1
  | .lit _ => 1
  | .nil => 1
  | .ptr d => uptoBulk d + 1
  | .slice elems spare => uptoBulkAll elems + uptoBulkAll spare + 1
  | .agg parts => uptoBulkAll parts + 1
  | .iface _ d => uptoBulk d + 1
  | .map entries => uptoBulkEntries entries + 1
  | .held _ => 1
def uptoBulkAll {H : Type} : List (DataW H) → Nat
  | [] => 0
  | d :: r => uptoBulk d + uptoBulkAll r
def uptoBulkEntries {H : Type} : List (Lit × DataW H) → Nat
  | [] => 0
  | x :: r => uptoBulkEntry x + uptoBulkEntries r
def uptoBulkEntry {H : Type} : Lit × DataW H → Nat
  | (.string bytes, d) => bytes.length + uptoBulk d + 1
  | (_, d) => uptoBulk d + 1
 end
def uptoSmall : (H : Type) → List (DataW H) → Bool := fun _ ds => decide (uptoBulkAll ds ≤ 1048576)
def OpenSpec.upto (s : _root_.Go.ChangeSpec) : _root_.Go.OpenSpec := { _root_.Go.OpenSpec.ofChange s with cond := some uptoSmall }

/-- 'laws.FnExactKitShort', WHERE WHAT IT READS IS OF BULK AT MOST 1048576: true; the input reads as it did. -/
def fnExactKitShortUptoRow : OpenClaim := { program := "ytinijfdopkohfaa", sum := "29e927917ddf92a096cddf3c0116977e6a99c78e1eca8bd3f824a5be5f0c0192", func := "loop.example/g01013/laws.FnExactKitShort", spec := "fnExactKitShort", unfollowed := true, recurses := true, apart := false, narrowed := true }
def FnExactKitShortUptoSaid : Prop := fnExactKitShortUptoRow.holds Try.pinned (OpenSpec.upto fnExactKitShortSpec)

/-- 'laws.FnExactSplitGroup', WHERE WHAT IT READS IS OF BULK AT MOST 1048576: true; the input reads as it did. -/
def fnExactSplitGroupUptoRow : OpenClaim := { program := "ytinijfdopkohfaa", sum := "29e927917ddf92a096cddf3c0116977e6a99c78e1eca8bd3f824a5be5f0c0192", func := "loop.example/g01013/laws.FnExactSplitGroup", spec := "fnExactSplitGroup", unfollowed := true, recurses := true, apart := false, narrowed := true }
def FnExactSplitGroupUptoSaid : Prop := fnExactSplitGroupUptoRow.holds Try.pinned (OpenSpec.upto fnExactSplitGroupSpec)

/-- 'laws.FnExactLendKit', WHERE WHAT IT READS IS OF BULK AT MOST 1048576: true; the input reads as it did. -/
def fnExactLendKitUptoRow : OpenClaim := { program := "ytinijfdopkohfaa", sum := "29e927917ddf92a096cddf3c0116977e6a99c78e1eca8bd3f824a5be5f0c0192", func := "loop.example/g01013/laws.FnExactLendKit", spec := "fnExactLendKit", unfollowed := true, recurses := true, apart := false, narrowed := true }
def FnExactLendKitUptoSaid : Prop := fnExactLendKitUptoRow.holds Try.pinned (OpenSpec.upto fnExactLendKitSpec)

/-- 'laws.FnExactFirstShut', WHERE WHAT IT READS IS OF BULK AT MOST 1048576: true; the input reads as it did. -/
def fnExactFirstShutUptoRow : OpenClaim := { program := "ytinijfdopkohfaa", sum := "29e927917ddf92a096cddf3c0116977e6a99c78e1eca8bd3f824a5be5f0c0192", func := "loop.example/g01013/laws.FnExactFirstShut", spec := "fnExactFirstShut", unfollowed := true, recurses := true, apart := false, narrowed := true }
def FnExactFirstShutUptoSaid : Prop := fnExactFirstShutUptoRow.holds Try.pinned (OpenSpec.upto fnExactFirstShutSpec)

/-- 'laws.FnExactLeastHold', WHERE WHAT IT READS IS OF BULK AT MOST 1048576: true; the input reads as it did. -/
def fnExactLeastHoldUptoRow : OpenClaim := { program := "ytinijfdopkohfaa", sum := "29e927917ddf92a096cddf3c0116977e6a99c78e1eca8bd3f824a5be5f0c0192", func := "loop.example/g01013/laws.FnExactLeastHold", spec := "fnExactLeastHold", unfollowed := true, recurses := true, apart := false, narrowed := true }
def FnExactLeastHoldUptoSaid : Prop := fnExactLeastHoldUptoRow.holds Try.pinned (OpenSpec.upto fnExactLeastHoldSpec)

/-- 'laws.FnExactOpenGates', WHERE WHAT IT READS IS OF BULK AT MOST 1048576: true; the input reads as it did. -/
def fnExactOpenGatesUptoRow : OpenClaim := { program := "ytinijfdopkohfaa", sum := "29e927917ddf92a096cddf3c0116977e6a99c78e1eca8bd3f824a5be5f0c0192", func := "loop.example/g01013/laws.FnExactOpenGates", spec := "fnExactOpenGates", apart := false, narrowed := true }
def FnExactOpenGatesUptoSaid : Prop := fnExactOpenGatesUptoRow.holds Try.pinned (OpenSpec.upto fnExactOpenGatesSpec)

/-- 'laws.FnExactRunGate', WHERE WHAT IT READS IS OF BULK AT MOST 1048576: true; the input reads as it did. -/
def fnExactRunGateUptoRow : OpenClaim := { program := "ytinijfdopkohfaa", sum := "29e927917ddf92a096cddf3c0116977e6a99c78e1eca8bd3f824a5be5f0c0192", func := "loop.example/g01013/laws.FnExactRunGate", spec := "fnExactRunGate", unfollowed := true, recurses := true, apart := false, narrowed := true }
def FnExactRunGateUptoSaid : Prop := fnExactRunGateUptoRow.holds Try.pinned (OpenSpec.upto fnExactRunGateSpec)

/-- 'laws.FnExactShutHours', WHERE WHAT IT READS IS OF BULK AT MOST 1048576: true; the input reads as it did. -/
def fnExactShutHoursUptoRow : OpenClaim := { program := "ytinijfdopkohfaa", sum := "29e927917ddf92a096cddf3c0116977e6a99c78e1eca8bd3f824a5be5f0c0192", func := "loop.example/g01013/laws.FnExactShutHours", spec := "fnExactShutHours", unfollowed := true, recurses := true, apart := false, narrowed := true }
def FnExactShutHoursUptoSaid : Prop := fnExactShutHoursUptoRow.holds Try.pinned (OpenSpec.upto fnExactShutHoursSpec)

end Rows
end Go.Proofs.Ytinijfdopkohfaa
