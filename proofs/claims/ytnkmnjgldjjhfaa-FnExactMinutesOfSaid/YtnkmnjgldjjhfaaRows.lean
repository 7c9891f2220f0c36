/-
  No cell of these rows narrows 'for every input' (looked for: loops, veiled, ifaces, maps, wideKeys, modest, calm, conditions, laid).
  DERIVED. THE GIVEN ROWS OF THIS SEAT. 6 by the template 'for every input the law returns true; each argument reads behind the call as it read before'; 0 by the template 'total and deterministic' (their statements: YtnkmnjgldjjhfaaTotals.lean).
  GIVEN WITH THE SEED: the statements are not yours to turn. If you find one false, say at which input.
  Laid BY PROGRAM, IN A SANDBOX (cutbox-rows.mjs): the forced cells as the released guide's own fill.sh prints them over the translation b3bf7d9af20a659d… (all of the seat's roots in one cut). By AI agents, Wed Nov 11 2026. No macro, syntax, notation, axiom, sorry.
-/
import Derived.Test.YtnkmnjgldjjhfaaChecked
import GoSem.Claim
import GoSem.ClaimJoined
import GoSem.ClaimMapViews
import Derived.JoinedTies
import Derived.KernelRfl
namespace Go.Proofs.Ytnkmnjgldjjhfaa
/- THE CELL 'sum', in the pinned program and in every row, IS THE sha256 OF THE DUMP (.gsa) THAT YtnkmnjgldjjhfaaProg.lean LOADS. Nothing in Lean hashes anything: it is a label: what it is worth is what the hold of that sum in a sandbox is worth. -/
noncomputable def Try.pinned : Pinned := { name := "ytnkmnjgldjjhfaa", sum := "b3bf7d9af20a659d415eb905f51bda9513b1093ad3eb615b3bd6c57137cfa047", checked := Try.checked }
namespace Rows
def none {H : Type} : Left H := { results := [], args := [] }

/-- 'laws.FnExactGrowStand': WHATEVER THE INPUT: true; the input reads as it did. -/
def fnExactGrowStandSpec : ChangeSpec := { name := "fnExactGrowStand", fn := fun _ => fun
  | [d1, d2] => { results := [.lit (.bool true)], args := [d1, d2] }
  | _ => none }
def fnExactGrowStandRow : OpenClaim := { program := "ytnkmnjgldjjhfaa", sum := "b3bf7d9af20a659d415eb905f51bda9513b1093ad3eb615b3bd6c57137cfa047", func := "loop.example/g01013/laws.FnExactGrowStand", spec := "fnExactGrowStand", apart := false }
def FnExactGrowStandSaid : Prop := fnExactGrowStandRow.holds Try.pinned (OpenSpec.ofChange fnExactGrowStandSpec)

/-- ITS FALSE NEIGHBOUR: 'it returns false'. Refute it at one input. -/
def fnExactGrowStandWrong : ChangeSpec := { name := "fnExactGrowStand", fn := fun _ => fun
  | [d1, d2] => { results := [.lit (.bool false)], args := [d1, d2] }
  | _ => none }
def FnExactGrowStandWrongFalsely : Prop := fnExactGrowStandRow.holds Try.pinned (OpenSpec.ofChange fnExactGrowStandWrong)

/-- 'laws.FnExactPersistShare': WHATEVER THE INPUT: true; the input reads as it did. -/
def fnExactPersistShareSpec : ChangeSpec := { name := "fnExactPersistShare", fn := fun _ => fun
  | [d] => { results := [.lit (.bool true)], args := [d] }
  | _ => none }
def fnExactPersistShareRow : OpenClaim := { program := "ytnkmnjgldjjhfaa", sum := "b3bf7d9af20a659d415eb905f51bda9513b1093ad3eb615b3bd6c57137cfa047", func := "loop.example/g01013/laws.FnExactPersistShare", spec := "fnExactPersistShare", apart := false }
def FnExactPersistShareSaid : Prop := fnExactPersistShareRow.holds Try.pinned (OpenSpec.ofChange fnExactPersistShareSpec)

/-- ITS FALSE NEIGHBOUR: 'it returns false'. Refute it at one input. -/
def fnExactPersistShareWrong : ChangeSpec := { name := "fnExactPersistShare", fn := fun _ => fun
  | [d] => { results := [.lit (.bool false)], args := [d] }
  | _ => none }
def FnExactPersistShareWrongFalsely : Prop := fnExactPersistShareRow.holds Try.pinned (OpenSpec.ofChange fnExactPersistShareWrong)

/-- 'laws.FnExactMinutesOf': WHATEVER THE INPUT: true; the input reads as it did. -/
def fnExactMinutesOfSpec : ChangeSpec := { name := "fnExactMinutesOf", fn := fun _ => fun
  | [d] => { results := [.lit (.bool true)], args := [d] }
  | _ => none }
def fnExactMinutesOfRow : OpenClaim := { program := "ytnkmnjgldjjhfaa", sum := "b3bf7d9af20a659d415eb905f51bda9513b1093ad3eb615b3bd6c57137cfa047", func := "loop.example/g01013/laws.FnExactMinutesOf", spec := "fnExactMinutesOf", apart := false }
def FnExactMinutesOfSaid : Prop := fnExactMinutesOfRow.holds Try.pinned (OpenSpec.ofChange fnExactMinutesOfSpec)

/-- ITS FALSE NEIGHBOUR: 'it returns false'. Refute it at one input. -/
def fnExactMinutesOfWrong : ChangeSpec := { name := "fnExactMinutesOf", fn := fun _ => fun
  | [d] => { results := [.lit (.bool false)], args := [d] }
  | _ => none }
def FnExactMinutesOfWrongFalsely : Prop := fnExactMinutesOfRow.holds Try.pinned (OpenSpec.ofChange fnExactMinutesOfWrong)

/-- 'laws.FnExactJoinGroups': WHATEVER THE INPUT: true; the input reads as it did. -/
def fnExactJoinGroupsSpec : ChangeSpec := { name := "fnExactJoinGroups", fn := fun _ => fun
  | [d1, d2, d3] => { results := [.lit (.bool true)], args := [d1, d2, d3] }
  | _ => none }
def fnExactJoinGroupsRow : OpenClaim := { program := "ytnkmnjgldjjhfaa", sum := "b3bf7d9af20a659d415eb905f51bda9513b1093ad3eb615b3bd6c57137cfa047", func := "loop.example/g01013/laws.FnExactJoinGroups", spec := "fnExactJoinGroups", unfollowed := true, recurses := true, apart := false }
def FnExactJoinGroupsSaid : Prop := fnExactJoinGroupsRow.holds Try.pinned (OpenSpec.ofChange fnExactJoinGroupsSpec)

/-- ITS FALSE NEIGHBOUR: 'it returns false'. Refute it at one input. -/
def fnExactJoinGroupsWrong : ChangeSpec := { name := "fnExactJoinGroups", fn := fun _ => fun
  | [d1, d2, d3] => { results := [.lit (.bool false)], args := [d1, d2, d3] }
  | _ => none }
def FnExactJoinGroupsWrongFalsely : Prop := fnExactJoinGroupsRow.holds Try.pinned (OpenSpec.ofChange fnExactJoinGroupsWrong)

/-- 'laws.FnExactValidGroups': WHATEVER THE INPUT: true; the input reads as it did. -/
def fnExactValidGroupsSpec : ChangeSpec := { name := "fnExactValidGroups", fn := fun _ => fun
  | [d] => { results := [.lit (.bool true)], args := [d] }
  | _ => none }
def fnExactValidGroupsRow : OpenClaim := { program := "ytnkmnjgldjjhfaa", sum := "b3bf7d9af20a659d415eb905f51bda9513b1093ad3eb615b3bd6c57137cfa047", func := "loop.example/g01013/laws.FnExactValidGroups", spec := "fnExactValidGroups", unfollowed := true, recurses := true, apart := false }
def FnExactValidGroupsSaid : Prop := fnExactValidGroupsRow.holds Try.pinned (OpenSpec.ofChange fnExactValidGroupsSpec)

/-- ITS FALSE NEIGHBOUR: 'it returns false'. Refute it at one input. -/
def fnExactValidGroupsWrong : ChangeSpec := { name := "fnExactValidGroups", fn := fun _ => fun
  | [d] => { results := [.lit (.bool false)], args := [d] }
  | _ => none }
def FnExactValidGroupsWrongFalsely : Prop := fnExactValidGroupsRow.holds Try.pinned (OpenSpec.ofChange fnExactValidGroupsWrong)

/-- 'laws.FnExactYearsUntil': WHATEVER THE INPUT: true; the input reads as it did. -/
def fnExactYearsUntilSpec : ChangeSpec := { name := "fnExactYearsUntil", fn := fun _ => fun
  | [d1, d2, d3] => { results := [.lit (.bool true)], args := [d1, d2, d3] }
  | _ => none }
def fnExactYearsUntilRow : OpenClaim := { program := "ytnkmnjgldjjhfaa", sum := "b3bf7d9af20a659d415eb905f51bda9513b1093ad3eb615b3bd6c57137cfa047", func := "loop.example/g01013/laws.FnExactYearsUntil", spec := "fnExactYearsUntil", apart := false }
def FnExactYearsUntilSaid : Prop := fnExactYearsUntilRow.holds Try.pinned (OpenSpec.ofChange fnExactYearsUntilSpec)

/-- ITS FALSE NEIGHBOUR: 'it returns false'. Refute it at one input. -/
def fnExactYearsUntilWrong : ChangeSpec := { name := "fnExactYearsUntil", fn := fun _ => fun
  | [d1, d2, d3] => { results := [.lit (.bool false)], args := [d1, d2, d3] }
  | _ => none }
def FnExactYearsUntilWrongFalsely : Prop := fnExactYearsUntilRow.holds Try.pinned (OpenSpec.ofChange fnExactYearsUntilWrong)

/- THE SECOND FORM. 'bulk': how many values and letters a reading holds, each counted each time it is reached (what is shared counts as often as it is met; a slice's spare places count too). A statement '..UptoSaid' is the law's where the arguments, and the package variables that the reading takes, are together of bulk at most 1048576: NARROWER than '..Said'. Prove '..Said' where nothing that the law and all that it calls make is longer than what came in: it says more and counts as full. Else prove '..UptoSaid'. A law counts once. -/
mutual
def uptoBulk {H : Type} : DataW H → Nat
  | .lit (.string bytes) => bytes.length + 1
  | .lit _ => 1
  | .nil => 1
  | .ptr d => uptoBulk d + 1
  | .slice elems spare => uptoBulkAll elems + uptoBulkAll spare + 1
  | .agg parts => uptoBulkAll parts + 1
  | .iface _ d => uptoBulk d + 1
  | .map entries => uptoBulkEntries entries + 1
  | .held _ => 1
def uptoBulkAll {H : Type} : List (DataW H) → Nat
  | [] => 0
  | d :: r => uptoBulk d + uptoBulkAll r
def uptoBulkEntries {H : Type} : List (Lit × DataW H) → Nat
  | [] => 0
  | x :: r => uptoBulkEntry x + uptoBulkEntries r
def uptoBulkEntry {H : Type} : Lit × DataW H → Nat
  | (.string bytes, d) => bytes.length + uptoBulk d + 1
  | (_, d) => uptoBulk d + 1
 end
def uptoSmall : (H : Type) → List (DataW H) → Bool := fun _ ds => decide (uptoBulkAll ds ≤ 1048576)
def OpenSpec.upto (s : _root_.Go.ChangeSpec) : _root_.Go.OpenSpec := { _root_.Go.OpenSpec.ofChange s with cond := some uptoSmall }

/-- 'laws.FnExactGrowStand', WHERE WHAT IT READS IS OF BULK AT MOST 1048576: true; the input reads as it did. -/
def fnExactGrowStandUptoRow : OpenClaim := { program := "ytnkmnjgldjjhfaa", sum := "b3bf7d9af20a659d415eb905f51bda9513b1093ad3eb615b3bd6c57137cfa047", func := "loop.example/g01013/laws.FnExactGrowStand", spec := "fnExactGrowStand", apart := false, narrowed := true }
def FnExactGrowStandUptoSaid : Prop := fnExactGrowStandUptoRow.holds Try.pinned (OpenSpec.upto fnExactGrowStandSpec)

/-- 'laws.FnExactPersistShare', WHERE WHAT IT READS IS OF BULK AT MOST 1048576: true; the input reads as it did. -/
def fnExactPersistShareUptoRow : OpenClaim := { program := "ytnkmnjgldjjhfaa", sum := "b3bf7d9af20a659d415eb905f51bda9513b1093ad3eb615b3bd6c57137cfa047", func := "loop.example/g01013/laws.FnExactPersistShare", spec := "fnExactPersistShare", apart := false, narrowed := true }
def FnExactPersistShareUptoSaid : Prop := fnExactPersistShareUptoRow.holds Try.pinned (OpenSpec.upto fnExactPersistShareSpec)

/-- 'laws.FnExactMinutesOf', WHERE WHAT IT READS IS OF BULK AT MOST 1048576: true; the input reads as it did. -/
def fnExactMinutesOfUptoRow : OpenClaim := { program := "ytnkmnjgldjjhfaa", sum := "b3bf7d9af20a659d415eb905f51bda9513b1093ad3eb615b3bd6c57137cfa047", func := "loop.example/g01013/laws.FnExactMinutesOf", spec := "fnExactMinutesOf", apart := false, narrowed := true }
def FnExactMinutesOfUptoSaid : Prop := fnExactMinutesOfUptoRow.holds Try.pinned (OpenSpec.upto fnExactMinutesOfSpec)

/-- 'laws.FnExactJoinGroups', WHERE WHAT IT READS IS OF BULK AT MOST 1048576: true; the input reads as it did. -/
def fnExactJoinGroupsUptoRow : OpenClaim := { program := "ytnkmnjgldjjhfaa", sum := "b3bf7d9af20a659d415eb905f51bda9513b1093ad3eb615b3bd6c57137cfa047", func := "loop.example/g01013/laws.FnExactJoinGroups", spec := "fnExactJoinGroups", unfollowed := true, recurses := true, apart := false, narrowed := true }
def FnExactJoinGroupsUptoSaid : Prop := fnExactJoinGroupsUptoRow.holds Try.pinned (OpenSpec.upto fnExactJoinGroupsSpec)

/-- 'laws.FnExactValidGroups', WHERE WHAT IT READS IS OF BULK AT MOST 1048576: true; the input reads as it did. -/
def fnExactValidGroupsUptoRow : OpenClaim := { program := "ytnkmnjgldjjhfaa", sum := "b3bf7d9af20a659d415eb905f51bda9513b1093ad3eb615b3bd6c57137cfa047", func := "loop.example/g01013/laws.FnExactValidGroups", spec := "fnExactValidGroups", unfollowed := true, recurses := true, apart := false, narrowed := true }
def FnExactValidGroupsUptoSaid : Prop := fnExactValidGroupsUptoRow.holds Try.pinned (OpenSpec.upto fnExactValidGroupsSpec)

/-- 'laws.FnExactYearsUntil', WHERE WHAT IT READS IS OF BULK AT MOST 1048576: true; the input reads as it did. -/
def fnExactYearsUntilUptoRow : OpenClaim := { program := "ytnkmnjgldjjhfaa", sum := "b3bf7d9af20a659d415eb905f51bda9513b1093ad3eb615b3bd6c57137cfa047", func := "loop.example/g01013/laws.FnExactYearsUntil", spec := "fnExactYearsUntil", apart := false, narrowed := true }
def FnExactYearsUntilUptoSaid : Prop := fnExactYearsUntilUptoRow.holds Try.pinned (OpenSpec.upto fnExactYearsUntilSpec)

end Rows
end Go.Proofs.Ytnkmnjgldjjhfaa
