/-
  No cell of these rows narrows 'for every input' (looked for: loops, veiled, ifaces, maps, wideKeys, modest, calm, conditions, laid).
  DERIVED. THE GIVEN ROWS OF THIS SEAT. 4 by the template 'for every input the law returns true; each argument reads behind the call as it read before'; 0 by the template 'total and deterministic' (their statements: YtcjalooaikfkbaaTotals.lean).
  GIVEN WITH THE SEED: the statements are not yours to turn. If you find one false, say at which input.
  Laid BY PROGRAM, IN A SANDBOX (cutbox-rows.mjs): the forced cells as the released guide's own fill.sh prints them over the translation ec9dcd3dba346d2c… (all of the seat's roots in one cut). By AI agents, Wed Nov 11 2026. No macro, syntax, notation, axiom, sorry.
-/
import Derived.Test.YtcjalooaikfkbaaChecked
import GoSem.Claim
import GoSem.ClaimJoined
import GoSem.ClaimMapViews
import Derived.JoinedTies
import Derived.KernelRfl
namespace Go.Proofs.Ytcjalooaikfkbaa
/- THE CELL 'sum', in the pinned program and in every row, IS THE sha256 OF THE DUMP (.gsa) THAT YtcjalooaikfkbaaProg.lean LOADS. Nothing in Lean hashes anything: it is a label: what it is worth is what the hold of that sum in a sandbox is worth. -/
noncomputable def Try.pinned : Pinned := { name := "ytcjalooaikfkbaa", sum := "ec9dcd3dba346d2ce35589788fc9101c9b84354658f9c83d1b2eb1b28f2dba5c", checked := Try.checked }
namespace Rows
def none {H : Type} : Left H := { results := [], args := [] }

/-- 'laws.FnForest': WHATEVER THE INPUT: true; the input reads as it did. -/
def fnForestSpec : ChangeSpec := { name := "fnForest", fn := fun _ => fun
  | [d1, d2] => { results := [.lit (.bool true)], args := [d1, d2] }
  | _ => none }
def fnForestRow : OpenClaim := { program := "ytcjalooaikfkbaa", sum := "ec9dcd3dba346d2ce35589788fc9101c9b84354658f9c83d1b2eb1b28f2dba5c", func := "loop.example/g01013/laws.FnForest", spec := "fnForest", apart := false }
def FnForestSaid : Prop := fnForestRow.holds Try.pinned (OpenSpec.ofChange fnForestSpec)

/-- ITS FALSE NEIGHBOUR: 'it returns false'. Refute it at one input. -/
def fnForestWrong : ChangeSpec := { name := "fnForest", fn := fun _ => fun
  | [d1, d2] => { results := [.lit (.bool false)], args := [d1, d2] }
  | _ => none }
def FnForestWrongFalsely : Prop := fnForestRow.holds Try.pinned (OpenSpec.ofChange fnForestWrong)

/-- 'laws.FnGrowth': WHATEVER THE INPUT: true; the input reads as it did. -/
def fnGrowthSpec : ChangeSpec := { name := "fnGrowth", fn := fun _ => fun
  | [d1, d2] => { results := [.lit (.bool true)], args := [d1, d2] }
  | _ => none }
def fnGrowthRow : OpenClaim := { program := "ytcjalooaikfkbaa", sum := "ec9dcd3dba346d2ce35589788fc9101c9b84354658f9c83d1b2eb1b28f2dba5c", func := "loop.example/g01013/laws.FnGrowth", spec := "fnGrowth", unfollowed := true, recurses := true, apart := false }
def FnGrowthSaid : Prop := fnGrowthRow.holds Try.pinned (OpenSpec.ofChange fnGrowthSpec)

/-- ITS FALSE NEIGHBOUR: 'it returns false'. Refute it at one input. -/
def fnGrowthWrong : ChangeSpec := { name := "fnGrowth", fn := fun _ => fun
  | [d1, d2] => { results := [.lit (.bool false)], args := [d1, d2] }
  | _ => none }
def FnGrowthWrongFalsely : Prop := fnGrowthRow.holds Try.pinned (OpenSpec.ofChange fnGrowthWrong)

/-- 'laws.FnVerification': WHATEVER THE INPUT: true; the input reads as it did. -/
def fnVerificationSpec : ChangeSpec := { name := "fnVerification", fn := fun _ => fun
  | [d1, d2] => { results := [.lit (.bool true)], args := [d1, d2] }
  | _ => none }
def fnVerificationRow : OpenClaim := { program := "ytcjalooaikfkbaa", sum := "ec9dcd3dba346d2ce35589788fc9101c9b84354658f9c83d1b2eb1b28f2dba5c", func := "loop.example/g01013/laws.FnVerification", spec := "fnVerification", unfollowed := true, recurses := true, apart := false }
def FnVerificationSaid : Prop := fnVerificationRow.holds Try.pinned (OpenSpec.ofChange fnVerificationSpec)

/-- ITS FALSE NEIGHBOUR: 'it returns false'. Refute it at one input. -/
def fnVerificationWrong : ChangeSpec := { name := "fnVerification", fn := fun _ => fun
  | [d1, d2] => { results := [.lit (.bool false)], args := [d1, d2] }
  | _ => none }
def FnVerificationWrongFalsely : Prop := fnVerificationRow.holds Try.pinned (OpenSpec.ofChange fnVerificationWrong)

/-- 'laws.FnOdd': WHATEVER THE INPUT: true; the input reads as it did. -/
def fnOddSpec : ChangeSpec := { name := "fnOdd", fn := fun _ => fun
  | [d1, d2] => { results := [.lit (.bool true)], args := [d1, d2] }
  | _ => none }
def fnOddRow : OpenClaim := { program := "ytcjalooaikfkbaa", sum := "ec9dcd3dba346d2ce35589788fc9101c9b84354658f9c83d1b2eb1b28f2dba5c", func := "loop.example/g01013/laws.FnOdd", spec := "fnOdd", unfollowed := true, recurses := true, apart := false }
def FnOddSaid : Prop := fnOddRow.holds Try.pinned (OpenSpec.ofChange fnOddSpec)

/-- ITS FALSE NEIGHBOUR: 'it returns false'. Refute it at one input. -/
def fnOddWrong : ChangeSpec := { name := "fnOdd", fn := fun _ => fun
  | [d1, d2] => { results := [.lit (.bool false)], args := [d1, d2] }
  | _ => none }
def FnOddWrongFalsely : Prop := fnOddRow.holds Try.pinned (OpenSpec.ofChange fnOddWrong)

/- THE SECOND FORM. 'bulk': how many values and letters a reading holds, each counted each time it is reached (what is shared counts as often as it is met; a slice's spare places count too). A statement '..UptoSaid' is the law's where the arguments, and the package variables that the reading takes, are together of bulk at most 1048576: NARROWER than '..Said'. Prove '..Said' where nothing that the law and all that it calls make is longer than what came in: it says more and counts as full. Else prove '..UptoSaid'. A law counts once. -/
mutual
def uptoBulk {H : Type} : DataW H → Nat
  | .lit (.string bytes) => bytes.length + 1
  | .lit _ => 1
  | .nil => 1
  | .ptr d => uptoBulk d + 1
  | .slice elems spare => uptoBulkAll elems + uptoBulkAll spare + 1
  | .agg parts => uptoBulkAll parts + 1
  | .iface _ d => uptoBulk d + 1
  | .map entries => uptoBulkEntries entries + 1
  | .held _ => 1
def uptoBulkAll {H : Type} : List (DataW H) → Nat
  | [] => 0
  | d :: r => uptoBulk d + uptoBulkAll r
def uptoBulkEntries {H : Type} : List (Lit × DataW H) → Nat
  | [] => 0
  | x :: r => uptoBulkEntry x + uptoBulkEntries r
def uptoBulkEntry {H : Type} : Lit × DataW H → Nat
  | (.string bytes, d) => bytes.length + uptoBulk d + 1
  | (_, d) => uptoBulk d + 1
 end
def uptoSmall : (H : Type) → List (DataW H) → Bool := fun _ ds => decide (uptoBulkAll ds ≤ 1048576)
def OpenSpec.upto (s : _root_.Go.ChangeSpec) : _root_.Go.OpenSpec := { _root_.Go.OpenSpec.ofChange s with cond := some uptoSmall }

/-- 'laws.FnForest', WHERE WHAT IT READS IS OF BULK AT MOST 1048576: true; the input reads as it did. -/
def fnForestUptoRow : OpenClaim := { program := "ytcjalooaikfkbaa", sum := "ec9dcd3dba346d2ce35589788fc9101c9b84354658f9c83d1b2eb1b28f2dba5c", func := "loop.example/g01013/laws.FnForest", spec := "fnForest", apart := false, narrowed := true }
def FnForestUptoSaid : Prop := fnForestUptoRow.holds Try.pinned (OpenSpec.upto fnForestSpec)

/-- 'laws.FnGrowth', WHERE WHAT IT READS IS OF BULK AT MOST 1048576: true; the input reads as it did. -/
def fnGrowthUptoRow : OpenClaim := { program := "ytcjalooaikfkbaa", sum := "ec9dcd3dba346d2ce35589788fc9101c9b84354658f9c83d1b2eb1b28f2dba5c", func := "loop.example/g01013/laws.FnGrowth", spec := "fnGrowth", unfollowed := true, recurses := true, apart := false, narrowed := true }
def FnGrowthUptoSaid : Prop := fnGrowthUptoRow.holds Try.pinned (OpenSpec.upto fnGrowthSpec)

/-- 'laws.FnVerification', WHERE WHAT IT READS IS OF BULK AT MOST 1048576: true; the input reads as it did. -/
def fnVerificationUptoRow : OpenClaim := { program := "ytcjalooaikfkbaa", sum := "ec9dcd3dba346d2ce35589788fc9101c9b84354658f9c83d1b2eb1b28f2dba5c", func := "loop.example/g01013/laws.FnVerification", spec := "fnVerification", unfollowed := true, recurses := true, apart := false, narrowed := true }
def FnVerificationUptoSaid : Prop := fnVerificationUptoRow.holds Try.pinned (OpenSpec.upto fnVerificationSpec)

/-- 'laws.FnOdd', WHERE WHAT IT READS IS OF BULK AT MOST 1048576: true; the input reads as it did. -/
def fnOddUptoRow : OpenClaim := { program := "ytcjalooaikfkbaa", sum := "ec9dcd3dba346d2ce35589788fc9101c9b84354658f9c83d1b2eb1b28f2dba5c", func := "loop.example/g01013/laws.FnOdd", spec := "fnOdd", unfollowed := true, recurses := true, apart := false, narrowed := true }
def FnOddUptoSaid : Prop := fnOddUptoRow.holds Try.pinned (OpenSpec.upto fnOddSpec)

end Rows
end Go.Proofs.Ytcjalooaikfkbaa
