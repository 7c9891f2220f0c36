/-
  No cell of these rows narrows 'for every input' (looked for: loops, veiled, ifaces, maps, wideKeys, modest, calm, conditions, laid).
  DERIVED. THE GIVEN ROWS OF THIS SEAT. 5 by the template 'for every input the law returns true; each argument reads behind the call as it read before'; 0 by the template 'total and deterministic' (their statements: YtoiobpmpkfdidaaTotals.lean).
  GIVEN WITH THE SEED: the statements are not yours to turn. If you find one false, say at which input.
  Laid BY PROGRAM, IN A SANDBOX (cutbox-rows.mjs): the forced cells as the released guide's own fill.sh prints them over the translation 9b75d0c578f12f23… (all of the seat's roots in one cut). By AI agents, Wed Nov 11 2026. No macro, syntax, notation, axiom, sorry.
-/
import Derived.Test.YtoiobpmpkfdidaaChecked
import GoSem.Claim
import GoSem.ClaimJoined
import GoSem.ClaimMapViews
import Derived.JoinedTies
import Derived.KernelRfl
namespace Go.Proofs.Ytoiobpmpkfdidaa
/- THE CELL 'sum', in the pinned program and in every row, IS THE sha256 OF THE DUMP (.gsa) THAT YtoiobpmpkfdidaaProg.lean LOADS. Nothing in Lean hashes anything: it is a label: what it is worth is what the hold of that sum in a sandbox is worth. -/
noncomputable def Try.pinned : Pinned := { name := "ytoiobpmpkfdidaa", sum := "9b75d0c578f12f2342c06609dd16401efdeea76acbbd9d6f31e5adc359f5bb01", checked := Try.checked }
namespace Rows
def none {H : Type} : Left H := { results := [], args := [] }

/-- 'laws.FnExactCompareStations': WHATEVER THE INPUT: true; the input reads as it did. -/
def fnExactCompareStationsSpec : ChangeSpec := { name := "fnExactCompareStations", fn := fun _ => fun
  | [d1, d2] => { results := [.lit (.bool true)], args := [d1, d2] }
  | _ => none }
def fnExactCompareStationsRow : OpenClaim := { program := "ytoiobpmpkfdidaa", sum := "9b75d0c578f12f2342c06609dd16401efdeea76acbbd9d6f31e5adc359f5bb01", func := "loop.example/g01013/laws.FnExactCompareStations", spec := "fnExactCompareStations", unfollowed := true, recurses := true, apart := false }
def FnExactCompareStationsSaid : Prop := fnExactCompareStationsRow.holds Try.pinned (OpenSpec.ofChange fnExactCompareStationsSpec)

/-- ITS FALSE NEIGHBOUR: 'it returns false'. Refute it at one input. -/
def fnExactCompareStationsWrong : ChangeSpec := { name := "fnExactCompareStations", fn := fun _ => fun
  | [d1, d2] => { results := [.lit (.bool false)], args := [d1, d2] }
  | _ => none }
def FnExactCompareStationsWrongFalsely : Prop := fnExactCompareStationsRow.holds Try.pinned (OpenSpec.ofChange fnExactCompareStationsWrong)

/-- 'laws.FnExactWithoutOdd': WHATEVER THE INPUT: true; the input reads as it did. -/
def fnExactWithoutOddSpec : ChangeSpec := { name := "fnExactWithoutOdd", fn := fun _ => fun
  | [d1, d2, d3] => { results := [.lit (.bool true)], args := [d1, d2, d3] }
  | _ => none }
def fnExactWithoutOddRow : OpenClaim := { program := "ytoiobpmpkfdidaa", sum := "9b75d0c578f12f2342c06609dd16401efdeea76acbbd9d6f31e5adc359f5bb01", func := "loop.example/g01013/laws.FnExactWithoutOdd", spec := "fnExactWithoutOdd", apart := false }
def FnExactWithoutOddSaid : Prop := fnExactWithoutOddRow.holds Try.pinned (OpenSpec.ofChange fnExactWithoutOddSpec)

/-- ITS FALSE NEIGHBOUR: 'it returns false'. Refute it at one input. -/
def fnExactWithoutOddWrong : ChangeSpec := { name := "fnExactWithoutOdd", fn := fun _ => fun
  | [d1, d2, d3] => { results := [.lit (.bool false)], args := [d1, d2, d3] }
  | _ => none }
def FnExactWithoutOddWrongFalsely : Prop := fnExactWithoutOddRow.holds Try.pinned (OpenSpec.ofChange fnExactWithoutOddWrong)

/-- 'laws.FnExactOddObserved': WHATEVER THE INPUT: true; the input reads as it did. -/
def fnExactOddObservedSpec : ChangeSpec := { name := "fnExactOddObserved", fn := fun _ => fun
  | [d1, d2, d3] => { results := [.lit (.bool true)], args := [d1, d2, d3] }
  | _ => none }
def fnExactOddObservedRow : OpenClaim := { program := "ytoiobpmpkfdidaa", sum := "9b75d0c578f12f2342c06609dd16401efdeea76acbbd9d6f31e5adc359f5bb01", func := "loop.example/g01013/laws.FnExactOddObserved", spec := "fnExactOddObserved", apart := false }
def FnExactOddObservedSaid : Prop := fnExactOddObservedRow.holds Try.pinned (OpenSpec.ofChange fnExactOddObservedSpec)

/-- ITS FALSE NEIGHBOUR: 'it returns false'. Refute it at one input. -/
def fnExactOddObservedWrong : ChangeSpec := { name := "fnExactOddObserved", fn := fun _ => fun
  | [d1, d2, d3] => { results := [.lit (.bool false)], args := [d1, d2, d3] }
  | _ => none }
def FnExactOddObservedWrongFalsely : Prop := fnExactOddObservedRow.holds Try.pinned (OpenSpec.ofChange fnExactOddObservedWrong)

/-- 'laws.FnExactSnowAt': WHATEVER THE INPUT: true; the input reads as it did. -/
def fnExactSnowAtSpec : ChangeSpec := { name := "fnExactSnowAt", fn := fun _ => fun
  | [d1, d2] => { results := [.lit (.bool true)], args := [d1, d2] }
  | _ => none }
def fnExactSnowAtRow : OpenClaim := { program := "ytoiobpmpkfdidaa", sum := "9b75d0c578f12f2342c06609dd16401efdeea76acbbd9d6f31e5adc359f5bb01", func := "loop.example/g01013/laws.FnExactSnowAt", spec := "fnExactSnowAt", unfollowed := true, recurses := true, apart := false }
def FnExactSnowAtSaid : Prop := fnExactSnowAtRow.holds Try.pinned (OpenSpec.ofChange fnExactSnowAtSpec)

/-- ITS FALSE NEIGHBOUR: 'it returns false'. Refute it at one input. -/
def fnExactSnowAtWrong : ChangeSpec := { name := "fnExactSnowAt", fn := fun _ => fun
  | [d1, d2] => { results := [.lit (.bool false)], args := [d1, d2] }
  | _ => none }
def FnExactSnowAtWrongFalsely : Prop := fnExactSnowAtRow.holds Try.pinned (OpenSpec.ofChange fnExactSnowAtWrong)

/-- 'laws.FnExactMissingHours': WHATEVER THE INPUT: true; the input reads as it did. -/
def fnExactMissingHoursSpec : ChangeSpec := { name := "fnExactMissingHours", fn := fun _ => fun
  | [d1, d2, d3] => { results := [.lit (.bool true)], args := [d1, d2, d3] }
  | _ => none }
def fnExactMissingHoursRow : OpenClaim := { program := "ytoiobpmpkfdidaa", sum := "9b75d0c578f12f2342c06609dd16401efdeea76acbbd9d6f31e5adc359f5bb01", func := "loop.example/g01013/laws.FnExactMissingHours", spec := "fnExactMissingHours", unfollowed := true, recurses := true, apart := false }
def FnExactMissingHoursSaid : Prop := fnExactMissingHoursRow.holds Try.pinned (OpenSpec.ofChange fnExactMissingHoursSpec)

/-- ITS FALSE NEIGHBOUR: 'it returns false'. Refute it at one input. -/
def fnExactMissingHoursWrong : ChangeSpec := { name := "fnExactMissingHours", fn := fun _ => fun
  | [d1, d2, d3] => { results := [.lit (.bool false)], args := [d1, d2, d3] }
  | _ => none }
def FnExactMissingHoursWrongFalsely : Prop := fnExactMissingHoursRow.holds Try.pinned (OpenSpec.ofChange fnExactMissingHoursWrong)

/- THE SECOND FORM. 'bulk': how many values and letters a reading holds, each counted each time it is reached (what is shared counts as often as it is met; a slice's spare places count too). A statement '..UptoSaid' is the law's where the arguments, and the package variables that the reading takes, are together of bulk at most 1048576: NARROWER than '..Said'. Prove '..Said' where nothing that the law and all that it calls make is longer than what came in: it says more and counts as full. Else prove '..UptoSaid'. A law counts once. -/
mutual
def uptoBulk {H : Type} : DataW H → Nat
  | .lit (.string bytes) => bytes.length + 1
  | .lit _ => 1
  | .nil => 1
  | .ptr d => uptoBulk d + 1
  | .slice elems spare => uptoBulkAll elems + uptoBulkAll spare + 1
  | .agg parts => uptoBulkAll parts + 1
  | .iface _ d => uptoBulk d + 1
  | .map entries => uptoBulkEntries entries + 1
  | .held _ => 1
def uptoBulkAll {H : Type} : List (DataW H) → Nat
  | [] => 0
  | d :: r => uptoBulk d + uptoBulkAll r
def uptoBulkEntries {H : Type} : List (Lit × DataW H) → Nat
  | [] => 0
  | x :: r => uptoBulkEntry x + uptoBulkEntries r
def uptoBulkEntry {H : Type} : Lit × DataW H → Nat
  | (.string bytes, d) => bytes.length + uptoBulk d + 1
  | (_, d) => uptoBulk d + 1
 end
def uptoSmall : (H : Type) → List (DataW H) → Bool := fun _ ds => decide (uptoBulkAll ds ≤ 1048576)
def OpenSpec.upto (s : _root_.Go.ChangeSpec) : _root_.Go.OpenSpec := { _root_.Go.OpenSpec.ofChange s with cond := some uptoSmall }

/-- 'laws.FnExactCompareStations', WHERE WHAT IT READS IS OF BULK AT MOST 1048576: true; the input reads as it did. -/
def fnExactCompareStationsUptoRow : OpenClaim := { program := "ytoiobpmpkfdidaa", sum := "9b75d0c578f12f2342c06609dd16401efdeea76acbbd9d6f31e5adc359f5bb01", func := "loop.example/g01013/laws.FnExactCompareStations", spec := "fnExactCompareStations", unfollowed := true, recurses := true, apart := false, narrowed := true }
def FnExactCompareStationsUptoSaid : Prop := fnExactCompareStationsUptoRow.holds Try.pinned (OpenSpec.upto fnExactCompareStationsSpec)

/-- 'laws.FnExactWithoutOdd', WHERE WHAT IT READS IS OF BULK AT MOST 1048576: true; the input reads as it did. -/
def fnExactWithoutOddUptoRow : OpenClaim := { program := "ytoiobpmpkfdidaa", sum := "9b75d0c578f12f2342c06609dd16401efdeea76acbbd9d6f31e5adc359f5bb01", func := "loop.example/g01013/laws.FnExactWithoutOdd", spec := "fnExactWithoutOdd", apart := false, narrowed := true }
def FnExactWithoutOddUptoSaid : Prop := fnExactWithoutOddUptoRow.holds Try.pinned (OpenSpec.upto fnExactWithoutOddSpec)

/-- 'laws.FnExactOddObserved', WHERE WHAT IT READS IS OF BULK AT MOST 1048576: true; the input reads as it did. -/
def fnExactOddObservedUptoRow : OpenClaim := { program := "ytoiobpmpkfdidaa", sum := "9b75d0c578f12f2342c06609dd16401efdeea76acbbd9d6f31e5adc359f5bb01", func := "loop.example/g01013/laws.FnExactOddObserved", spec := "fnExactOddObserved", apart := false, narrowed := true }
def FnExactOddObservedUptoSaid : Prop := fnExactOddObservedUptoRow.holds Try.pinned (OpenSpec.upto fnExactOddObservedSpec)

/-- 'laws.FnExactSnowAt', WHERE WHAT IT READS IS OF BULK AT MOST 1048576: true; the input reads as it did. -/
def fnExactSnowAtUptoRow : OpenClaim := { program := "ytoiobpmpkfdidaa", sum := "9b75d0c578f12f2342c06609dd16401efdeea76acbbd9d6f31e5adc359f5bb01", func := "loop.example/g01013/laws.FnExactSnowAt", spec := "fnExactSnowAt", unfollowed := true, recurses := true, apart := false, narrowed := true }
def FnExactSnowAtUptoSaid : Prop := fnExactSnowAtUptoRow.holds Try.pinned (OpenSpec.upto fnExactSnowAtSpec)

/-- 'laws.FnExactMissingHours', WHERE WHAT IT READS IS OF BULK AT MOST 1048576: true; the input reads as it did. -/
def fnExactMissingHoursUptoRow : OpenClaim := { program := "ytoiobpmpkfdidaa", sum := "9b75d0c578f12f2342c06609dd16401efdeea76acbbd9d6f31e5adc359f5bb01", func := "loop.example/g01013/laws.FnExactMissingHours", spec := "fnExactMissingHours", unfollowed := true, recurses := true, apart := false, narrowed := true }
def FnExactMissingHoursUptoSaid : Prop := fnExactMissingHoursUptoRow.holds Try.pinned (OpenSpec.upto fnExactMissingHoursSpec)

end Rows
end Go.Proofs.Ytoiobpmpkfdidaa
