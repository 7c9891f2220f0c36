/-
  No cell of these rows narrows 'for every input' (looked for: loops, veiled, ifaces, maps, wideKeys, modest, calm, conditions, laid).
  DERIVED. THE GIVEN ROWS OF THIS SEAT. 7 by the template 'for every input the law returns true; each argument reads behind the call as it read before'; 0 by the template 'total and deterministic' (their statements: YtbmekipbbkaocaaTotals.lean).
  GIVEN WITH THE SEED: the statements are not yours to turn. If you find one false, say at which input.
  Laid BY PROGRAM, IN A SANDBOX (cutbox-rows.mjs): the forced cells as the released guide's own fill.sh prints them over the translation 041d3bcfc89eeefb… (all of the seat's roots in one cut). By AI agents, Wed Nov 11 2026. No macro, syntax, notation, axiom, sorry.
-/
import Derived.Test.YtbmekipbbkaocaaChecked
import GoSem.Claim
import GoSem.ClaimJoined
import GoSem.ClaimMapViews
import Derived.JoinedTies
import Derived.KernelRfl
namespace Go.Proofs.Ytbmekipbbkaocaa
/- THE CELL 'sum', in the pinned program and in every row, IS THE sha256 OF THE DUMP (.gsa) THAT YtbmekipbbkaocaaProg.lean LOADS. Nothing in Lean hashes anything: it is a label: what it is worth is what the hold of that sum in a sandbox is worth. -/
noncomputable def Try.pinned : Pinned := { name := "ytbmekipbbkaocaa", sum := "041d3bcfc89eeefb3740c25905e837af2d05a67cd6e8fecd6b1c8dab6ba01e31", checked := Try.checked }
namespace Rows
def none {H : Type} : Left H := { results := [], args := [] }

/-- 'laws.FnExactCallAt': WHATEVER THE INPUT: true; the input reads as it did. -/
def fnExactCallAtSpec : ChangeSpec := { name := "fnExactCallAt", fn := fun _ => fun
  | [d1, d2] => { results := [.lit (.bool true)], args := [d1, d2] }
  | _ => none }
def fnExactCallAtRow : OpenClaim := { program := "ytbmekipbbkaocaa", sum := "041d3bcfc89eeefb3740c25905e837af2d05a67cd6e8fecd6b1c8dab6ba01e31", func := "loop.example/g01013/laws.FnExactCallAt", spec := "fnExactCallAt", apart := false }
def FnExactCallAtSaid : Prop := fnExactCallAtRow.holds Try.pinned (OpenSpec.ofChange fnExactCallAtSpec)

/-- ITS FALSE NEIGHBOUR: 'it returns false'. Refute it at one input. -/
def fnExactCallAtWrong : ChangeSpec := { name := "fnExactCallAt", fn := fun _ => fun
  | [d1, d2] => { results := [.lit (.bool false)], args := [d1, d2] }
  | _ => none }
def FnExactCallAtWrongFalsely : Prop := fnExactCallAtRow.holds Try.pinned (OpenSpec.ofChange fnExactCallAtWrong)

/-- 'laws.FnExactLeastPause': WHATEVER THE INPUT: true; the input reads as it did. -/
def fnExactLeastPauseSpec : ChangeSpec := { name := "fnExactLeastPause", fn := fun _ => fun
  | [d1, d2] => { results := [.lit (.bool true)], args := [d1, d2] }
  | _ => none }
def fnExactLeastPauseRow : OpenClaim := { program := "ytbmekipbbkaocaa", sum := "041d3bcfc89eeefb3740c25905e837af2d05a67cd6e8fecd6b1c8dab6ba01e31", func := "loop.example/g01013/laws.FnExactLeastPause", spec := "fnExactLeastPause", apart := false }
def FnExactLeastPauseSaid : Prop := fnExactLeastPauseRow.holds Try.pinned (OpenSpec.ofChange fnExactLeastPauseSpec)

/-- ITS FALSE NEIGHBOUR: 'it returns false'. Refute it at one input. -/
def fnExactLeastPauseWrong : ChangeSpec := { name := "fnExactLeastPause", fn := fun _ => fun
  | [d1, d2] => { results := [.lit (.bool false)], args := [d1, d2] }
  | _ => none }
def FnExactLeastPauseWrongFalsely : Prop := fnExactLeastPauseRow.holds Try.pinned (OpenSpec.ofChange fnExactLeastPauseWrong)

/-- 'laws.FnExactOnWatch': WHATEVER THE INPUT: true; the input reads as it did. -/
def fnExactOnWatchSpec : ChangeSpec := { name := "fnExactOnWatch", fn := fun _ => fun
  | [d1, d2] => { results := [.lit (.bool true)], args := [d1, d2] }
  | _ => none }
def fnExactOnWatchRow : OpenClaim := { program := "ytbmekipbbkaocaa", sum := "041d3bcfc89eeefb3740c25905e837af2d05a67cd6e8fecd6b1c8dab6ba01e31", func := "loop.example/g01013/laws.FnExactOnWatch", spec := "fnExactOnWatch", apart := false }
def FnExactOnWatchSaid : Prop := fnExactOnWatchRow.holds Try.pinned (OpenSpec.ofChange fnExactOnWatchSpec)

/-- ITS FALSE NEIGHBOUR: 'it returns false'. Refute it at one input. -/
def fnExactOnWatchWrong : ChangeSpec := { name := "fnExactOnWatch", fn := fun _ => fun
  | [d1, d2] => { results := [.lit (.bool false)], args := [d1, d2] }
  | _ => none }
def FnExactOnWatchWrongFalsely : Prop := fnExactOnWatchRow.holds Try.pinned (OpenSpec.ofChange fnExactOnWatchWrong)

/-- 'laws.FnExactShortPauses': WHATEVER THE INPUT: true; the input reads as it did. -/
def fnExactShortPausesSpec : ChangeSpec := { name := "fnExactShortPauses", fn := fun _ => fun
  | [d1, d2] => { results := [.lit (.bool true)], args := [d1, d2] }
  | _ => none }
def fnExactShortPausesRow : OpenClaim := { program := "ytbmekipbbkaocaa", sum := "041d3bcfc89eeefb3740c25905e837af2d05a67cd6e8fecd6b1c8dab6ba01e31", func := "loop.example/g01013/laws.FnExactShortPauses", spec := "fnExactShortPauses", apart := false }
def FnExactShortPausesSaid : Prop := fnExactShortPausesRow.holds Try.pinned (OpenSpec.ofChange fnExactShortPausesSpec)

/-- ITS FALSE NEIGHBOUR: 'it returns false'. Refute it at one input. -/
def fnExactShortPausesWrong : ChangeSpec := { name := "fnExactShortPauses", fn := fun _ => fun
  | [d1, d2] => { results := [.lit (.bool false)], args := [d1, d2] }
  | _ => none }
def FnExactShortPausesWrongFalsely : Prop := fnExactShortPausesRow.holds Try.pinned (OpenSpec.ofChange fnExactShortPausesWrong)

/-- 'laws.FnExactUnwatchedHours': WHATEVER THE INPUT: true; the input reads as it did. -/
def fnExactUnwatchedHoursSpec : ChangeSpec := { name := "fnExactUnwatchedHours", fn := fun _ => fun
  | [d1, d2, d3] => { results := [.lit (.bool true)], args := [d1, d2, d3] }
  | _ => none }
def fnExactUnwatchedHoursRow : OpenClaim := { program := "ytbmekipbbkaocaa", sum := "041d3bcfc89eeefb3740c25905e837af2d05a67cd6e8fecd6b1c8dab6ba01e31", func := "loop.example/g01013/laws.FnExactUnwatchedHours", spec := "fnExactUnwatchedHours", apart := false }
def FnExactUnwatchedHoursSaid : Prop := fnExactUnwatchedHoursRow.holds Try.pinned (OpenSpec.ofChange fnExactUnwatchedHoursSpec)

/-- ITS FALSE NEIGHBOUR: 'it returns false'. Refute it at one input. -/
def fnExactUnwatchedHoursWrong : ChangeSpec := { name := "fnExactUnwatchedHours", fn := fun _ => fun
  | [d1, d2, d3] => { results := [.lit (.bool false)], args := [d1, d2, d3] }
  | _ => none }
def FnExactUnwatchedHoursWrongFalsely : Prop := fnExactUnwatchedHoursRow.holds Try.pinned (OpenSpec.ofChange fnExactUnwatchedHoursWrong)

/-- 'laws.FnExactValidWatches': WHATEVER THE INPUT: true; the input reads as it did. -/
def fnExactValidWatchesSpec : ChangeSpec := { name := "fnExactValidWatches", fn := fun _ => fun
  | [d] => { results := [.lit (.bool true)], args := [d] }
  | _ => none }
def fnExactValidWatchesRow : OpenClaim := { program := "ytbmekipbbkaocaa", sum := "041d3bcfc89eeefb3740c25905e837af2d05a67cd6e8fecd6b1c8dab6ba01e31", func := "loop.example/g01013/laws.FnExactValidWatches", spec := "fnExactValidWatches", apart := false }
def FnExactValidWatchesSaid : Prop := fnExactValidWatchesRow.holds Try.pinned (OpenSpec.ofChange fnExactValidWatchesSpec)

/-- ITS FALSE NEIGHBOUR: 'it returns false'. Refute it at one input. -/
def fnExactValidWatchesWrong : ChangeSpec := { name := "fnExactValidWatches", fn := fun _ => fun
  | [d] => { results := [.lit (.bool false)], args := [d] }
  | _ => none }
def FnExactValidWatchesWrongFalsely : Prop := fnExactValidWatchesRow.holds Try.pinned (OpenSpec.ofChange fnExactValidWatchesWrong)

/-- 'laws.FnExactWatchHours': WHATEVER THE INPUT: true; the input reads as it did. -/
def fnExactWatchHoursSpec : ChangeSpec := { name := "fnExactWatchHours", fn := fun _ => fun
  | [d1, d2] => { results := [.lit (.bool true)], args := [d1, d2] }
  | _ => none }
def fnExactWatchHoursRow : OpenClaim := { program := "ytbmekipbbkaocaa", sum := "041d3bcfc89eeefb3740c25905e837af2d05a67cd6e8fecd6b1c8dab6ba01e31", func := "loop.example/g01013/laws.FnExactWatchHours", spec := "fnExactWatchHours", apart := false }
def FnExactWatchHoursSaid : Prop := fnExactWatchHoursRow.holds Try.pinned (OpenSpec.ofChange fnExactWatchHoursSpec)

/-- ITS FALSE NEIGHBOUR: 'it returns false'. Refute it at one input. -/
def fnExactWatchHoursWrong : ChangeSpec := { name := "fnExactWatchHours", fn := fun _ => fun
  | [d1, d2] => { results := [.lit (.bool false)], args := [d1, d2] }
  | _ => none }
def FnExactWatchHoursWrongFalsely : Prop := fnExactWatchHoursRow.holds Try.pinned (OpenSpec.ofChange fnExactWatchHoursWrong)

/- THE SECOND FORM. 'bulk': how many values and letters a reading holds, each counted each time it is reached (what is shared counts as often as it is met; a slice's spare places count too). A statement '..UptoSaid' is the law's where the arguments, and the package variables that the reading takes, are together of bulk at most 1048576: NARROWER than '..Said'. Prove '..Said' where nothing that the law and all that it calls make is longer than what came in: it says more and counts as full. Else prove '..UptoSaid'. A law counts once. -/
mutual
def uptoBulk {H : Type} : DataW H → Nat
  | .lit (.string bytes) => bytes.length + 1
  | .lit _ => 1
  | .nil => 1
  | .ptr d => uptoBulk d + 1
  | .slice elems spare => uptoBulkAll elems + uptoBulkAll spare + 1
  | .agg parts => uptoBulkAll parts + 1
  | .iface _ d => uptoBulk d + 1
  | .map entries => uptoBulkEntries entries + 1
  | .held _ => 1
def uptoBulkAll {H : Type} : List (DataW H) → Nat
  | [] => 0
  | d :: r => uptoBulk d + uptoBulkAll r
def uptoBulkEntries {H : Type} : List (Lit × DataW H) → Nat
  | [] => 0
  | x :: r => uptoBulkEntry x + uptoBulkEntries r
def uptoBulkEntry {H : Type} : Lit × DataW H → Nat
  | (.string bytes, d) => bytes.length + uptoBulk d + 1
  | (_, d) => uptoBulk d + 1
 end
def uptoSmall : (H : Type) → List (DataW H) → Bool := fun _ ds => decide (uptoBulkAll ds ≤ 1048576)
def OpenSpec.upto (s : _root_.Go.ChangeSpec) : _root_.Go.OpenSpec := { _root_.Go.OpenSpec.ofChange s with cond := some uptoSmall }

/-- 'laws.FnExactCallAt', WHERE WHAT IT READS IS OF BULK AT MOST 1048576: true; the input reads as it did. -/
def fnExactCallAtUptoRow : OpenClaim := { program := "ytbmekipbbkaocaa", sum := "041d3bcfc89eeefb3740c25905e837af2d05a67cd6e8fecd6b1c8dab6ba01e31", func := "loop.example/g01013/laws.FnExactCallAt", spec := "fnExactCallAt", apart := false, narrowed := true }
def FnExactCallAtUptoSaid : Prop := fnExactCallAtUptoRow.holds Try.pinned (OpenSpec.upto fnExactCallAtSpec)

/-- 'laws.FnExactLeastPause', WHERE WHAT IT READS IS OF BULK AT MOST 1048576: true; the input reads as it did. -/
def fnExactLeastPauseUptoRow : OpenClaim := { program := "ytbmekipbbkaocaa", sum := "041d3bcfc89eeefb3740c25905e837af2d05a67cd6e8fecd6b1c8dab6ba01e31", func := "loop.example/g01013/laws.FnExactLeastPause", spec := "fnExactLeastPause", apart := false, narrowed := true }
def FnExactLeastPauseUptoSaid : Prop := fnExactLeastPauseUptoRow.holds Try.pinned (OpenSpec.upto fnExactLeastPauseSpec)

/-- 'laws.FnExactOnWatch', WHERE WHAT IT READS IS OF BULK AT MOST 1048576: true; the input reads as it did. -/
def fnExactOnWatchUptoRow : OpenClaim := { program := "ytbmekipbbkaocaa", sum := "041d3bcfc89eeefb3740c25905e837af2d05a67cd6e8fecd6b1c8dab6ba01e31", func := "loop.example/g01013/laws.FnExactOnWatch", spec := "fnExactOnWatch", apart := false, narrowed := true }
def FnExactOnWatchUptoSaid : Prop := fnExactOnWatchUptoRow.holds Try.pinned (OpenSpec.upto fnExactOnWatchSpec)

/-- 'laws.FnExactShortPauses', WHERE WHAT IT READS IS OF BULK AT MOST 1048576: true; the input reads as it did. -/
def fnExactShortPausesUptoRow : OpenClaim := { program := "ytbmekipbbkaocaa", sum := "041d3bcfc89eeefb3740c25905e837af2d05a67cd6e8fecd6b1c8dab6ba01e31", func := "loop.example/g01013/laws.FnExactShortPauses", spec := "fnExactShortPauses", apart := false, narrowed := true }
def FnExactShortPausesUptoSaid : Prop := fnExactShortPausesUptoRow.holds Try.pinned (OpenSpec.upto fnExactShortPausesSpec)

/-- 'laws.FnExactUnwatchedHours', WHERE WHAT IT READS IS OF BULK AT MOST 1048576: true; the input reads as it did. -/
def fnExactUnwatchedHoursUptoRow : OpenClaim := { program := "ytbmekipbbkaocaa", sum := "041d3bcfc89eeefb3740c25905e837af2d05a67cd6e8fecd6b1c8dab6ba01e31", func := "loop.example/g01013/laws.FnExactUnwatchedHours", spec := "fnExactUnwatchedHours", apart := false, narrowed := true }
def FnExactUnwatchedHoursUptoSaid : Prop := fnExactUnwatchedHoursUptoRow.holds Try.pinned (OpenSpec.upto fnExactUnwatchedHoursSpec)

/-- 'laws.FnExactValidWatches', WHERE WHAT IT READS IS OF BULK AT MOST 1048576: true; the input reads as it did. -/
def fnExactValidWatchesUptoRow : OpenClaim := { program := "ytbmekipbbkaocaa", sum := "041d3bcfc89eeefb3740c25905e837af2d05a67cd6e8fecd6b1c8dab6ba01e31", func := "loop.example/g01013/laws.FnExactValidWatches", spec := "fnExactValidWatches", apart := false, narrowed := true }
def FnExactValidWatchesUptoSaid : Prop := fnExactValidWatchesUptoRow.holds Try.pinned (OpenSpec.upto fnExactValidWatchesSpec)

/-- 'laws.FnExactWatchHours', WHERE WHAT IT READS IS OF BULK AT MOST 1048576: true; the input reads as it did. -/
def fnExactWatchHoursUptoRow : OpenClaim := { program := "ytbmekipbbkaocaa", sum := "041d3bcfc89eeefb3740c25905e837af2d05a67cd6e8fecd6b1c8dab6ba01e31", func := "loop.example/g01013/laws.FnExactWatchHours", spec := "fnExactWatchHours", apart := false, narrowed := true }
def FnExactWatchHoursUptoSaid : Prop := fnExactWatchHoursUptoRow.holds Try.pinned (OpenSpec.upto fnExactWatchHoursSpec)

end Rows
end Go.Proofs.Ytbmekipbbkaocaa
