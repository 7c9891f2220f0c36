/-
  No cell of these rows narrows 'for every input' (looked for: loops, veiled, ifaces, maps, wideKeys, modest, calm, conditions, laid).
  DERIVED. THE GIVEN ROWS OF THIS SEAT. 11 by the template 'for every input the law returns true; each argument reads behind the call as it read before'; 0 by the template 'total and deterministic' (their statements: YtamolhhccfnlfaaTotals.lean).
  GIVEN WITH THE SEED: the statements are not yours to turn. If you find one false, say at which input.
  Laid BY PROGRAM, IN A SANDBOX (cutbox-rows.mjs): the forced cells as the released guide's own fill.sh prints them over the translation 4bbae3cf1544e5b5… (all of the seat's roots in one cut). By AI agents, Wed Nov 11 2026. No macro, syntax, notation, axiom, sorry.
-/
import Derived.Test.YtamolhhccfnlfaaChecked
import GoSem.Claim
import GoSem.ClaimJoined
import GoSem.ClaimMapViews
import Derived.JoinedTies
import Derived.KernelRfl
namespace Go.Proofs.Ytamolhhccfnlfaa
/- THE CELL 'sum', in the pinned program and in every row, IS THE sha256 OF THE DUMP (.gsa) THAT YtamolhhccfnlfaaProg.lean LOADS. Nothing in Lean hashes anything: it is a label: what it is worth is what the hold of that sum in a sandbox is worth. -/
noncomputable def Try.pinned : Pinned := { name := "ytamolhhccfnlfaa", sum := "4bbae3cf1544e5b5674bf789f459d95f002c25c8e0fe57108cdeab24ab91d200", checked := Try.checked }
namespace Rows
def none {H : Type} : Left H := { results := [], args := [] }

/-- 'laws.FnExactFalseHigh': WHATEVER THE INPUT: true; the input reads as it did. -/
def fnExactFalseHighSpec : ChangeSpec := { name := "fnExactFalseHigh", fn := fun _ => fun
  | [d1, d2] => { results := [.lit (.bool true)], args := [d1, d2] }
  | _ => none }
def fnExactFalseHighRow : OpenClaim := { program := "ytamolhhccfnlfaa", sum := "4bbae3cf1544e5b5674bf789f459d95f002c25c8e0fe57108cdeab24ab91d200", func := "loop.example/g01013/laws.FnExactFalseHigh", spec := "fnExactFalseHigh", unfollowed := true, recurses := true, apart := false }
def FnExactFalseHighSaid : Prop := fnExactFalseHighRow.holds Try.pinned (OpenSpec.ofChange fnExactFalseHighSpec)

/-- ITS FALSE NEIGHBOUR: 'it returns false'. Refute it at one input. -/
def fnExactFalseHighWrong : ChangeSpec := { name := "fnExactFalseHigh", fn := fun _ => fun
  | [d1, d2] => { results := [.lit (.bool false)], args := [d1, d2] }
  | _ => none }
def FnExactFalseHighWrongFalsely : Prop := fnExactFalseHighRow.holds Try.pinned (OpenSpec.ofChange fnExactFalseHighWrong)

/-- 'laws.FnExactMissedHigh': WHATEVER THE INPUT: true; the input reads as it did. -/
def fnExactMissedHighSpec : ChangeSpec := { name := "fnExactMissedHigh", fn := fun _ => fun
  | [d1, d2] => { results := [.lit (.bool true)], args := [d1, d2] }
  | _ => none }
def fnExactMissedHighRow : OpenClaim := { program := "ytamolhhccfnlfaa", sum := "4bbae3cf1544e5b5674bf789f459d95f002c25c8e0fe57108cdeab24ab91d200", func := "loop.example/g01013/laws.FnExactMissedHigh", spec := "fnExactMissedHigh", unfollowed := true, recurses := true, apart := false }
def FnExactMissedHighSaid : Prop := fnExactMissedHighRow.holds Try.pinned (OpenSpec.ofChange fnExactMissedHighSpec)

/-- ITS FALSE NEIGHBOUR: 'it returns false'. Refute it at one input. -/
def fnExactMissedHighWrong : ChangeSpec := { name := "fnExactMissedHigh", fn := fun _ => fun
  | [d1, d2] => { results := [.lit (.bool false)], args := [d1, d2] }
  | _ => none }
def FnExactMissedHighWrongFalsely : Prop := fnExactMissedHighRow.holds Try.pinned (OpenSpec.ofChange fnExactMissedHighWrong)

/-- 'laws.FnExactMostFelled': WHATEVER THE INPUT: true; the input reads as it did. -/
def fnExactMostFelledSpec : ChangeSpec := { name := "fnExactMostFelled", fn := fun _ => fun
  | [d1, d2, d3] => { results := [.lit (.bool true)], args := [d1, d2, d3] }
  | _ => none }
def fnExactMostFelledRow : OpenClaim := { program := "ytamolhhccfnlfaa", sum := "4bbae3cf1544e5b5674bf789f459d95f002c25c8e0fe57108cdeab24ab91d200", func := "loop.example/g01013/laws.FnExactMostFelled", spec := "fnExactMostFelled", apart := false }
def FnExactMostFelledSaid : Prop := fnExactMostFelledRow.holds Try.pinned (OpenSpec.ofChange fnExactMostFelledSpec)

/-- ITS FALSE NEIGHBOUR: 'it returns false'. Refute it at one input. -/
def fnExactMostFelledWrong : ChangeSpec := { name := "fnExactMostFelled", fn := fun _ => fun
  | [d1, d2, d3] => { results := [.lit (.bool false)], args := [d1, d2, d3] }
  | _ => none }
def FnExactMostFelledWrongFalsely : Prop := fnExactMostFelledRow.holds Try.pinned (OpenSpec.ofChange fnExactMostFelledWrong)

/-- 'laws.FnExactHitShare': WHATEVER THE INPUT: true; the input reads as it did. -/
def fnExactHitShareSpec : ChangeSpec := { name := "fnExactHitShare", fn := fun _ => fun
  | [d1, d2] => { results := [.lit (.bool true)], args := [d1, d2] }
  | _ => none }
def fnExactHitShareRow : OpenClaim := { program := "ytamolhhccfnlfaa", sum := "4bbae3cf1544e5b5674bf789f459d95f002c25c8e0fe57108cdeab24ab91d200", func := "loop.example/g01013/laws.FnExactHitShare", spec := "fnExactHitShare", unfollowed := true, recurses := true, apart := false }
def FnExactHitShareSaid : Prop := fnExactHitShareRow.holds Try.pinned (OpenSpec.ofChange fnExactHitShareSpec)

/-- ITS FALSE NEIGHBOUR: 'it returns false'. Refute it at one input. -/
def fnExactHitShareWrong : ChangeSpec := { name := "fnExactHitShare", fn := fun _ => fun
  | [d1, d2] => { results := [.lit (.bool false)], args := [d1, d2] }
  | _ => none }
def FnExactHitShareWrongFalsely : Prop := fnExactHitShareRow.holds Try.pinned (OpenSpec.ofChange fnExactHitShareWrong)

/-- 'laws.FnForest': WHATEVER THE INPUT: true; the input reads as it did. -/
def fnForestSpec : ChangeSpec := { name := "fnForest", fn := fun _ => fun
  | [d1, d2] => { results := [.lit (.bool true)], args := [d1, d2] }
  | _ => none }
def fnForestRow : OpenClaim := { program := "ytamolhhccfnlfaa", sum := "4bbae3cf1544e5b5674bf789f459d95f002c25c8e0fe57108cdeab24ab91d200", func := "loop.example/g01013/laws.FnForest", spec := "fnForest", apart := false }
def FnForestSaid : Prop := fnForestRow.holds Try.pinned (OpenSpec.ofChange fnForestSpec)

/-- ITS FALSE NEIGHBOUR: 'it returns false'. Refute it at one input. -/
def fnForestWrong : ChangeSpec := { name := "fnForest", fn := fun _ => fun
  | [d1, d2] => { results := [.lit (.bool false)], args := [d1, d2] }
  | _ => none }
def FnForestWrongFalsely : Prop := fnForestRow.holds Try.pinned (OpenSpec.ofChange fnForestWrong)

/-- 'laws.FnExactSkillOf': WHATEVER THE INPUT: true; the input reads as it did. -/
def fnExactSkillOfSpec : ChangeSpec := { name := "fnExactSkillOf", fn := fun _ => fun
  | [d] => { results := [.lit (.bool true)], args := [d] }
  | _ => none }
def fnExactSkillOfRow : OpenClaim := { program := "ytamolhhccfnlfaa", sum := "4bbae3cf1544e5b5674bf789f459d95f002c25c8e0fe57108cdeab24ab91d200", func := "loop.example/g01013/laws.FnExactSkillOf", spec := "fnExactSkillOf", unfollowed := true, recurses := true, apart := false }
def FnExactSkillOfSaid : Prop := fnExactSkillOfRow.holds Try.pinned (OpenSpec.ofChange fnExactSkillOfSpec)

/-- ITS FALSE NEIGHBOUR: 'it returns false'. Refute it at one input. -/
def fnExactSkillOfWrong : ChangeSpec := { name := "fnExactSkillOf", fn := fun _ => fun
  | [d] => { results := [.lit (.bool false)], args := [d] }
  | _ => none }
def FnExactSkillOfWrongFalsely : Prop := fnExactSkillOfRow.holds Try.pinned (OpenSpec.ofChange fnExactSkillOfWrong)

/-- 'laws.FnExactWorstDays': WHATEVER THE INPUT: true; the input reads as it did. -/
def fnExactWorstDaysSpec : ChangeSpec := { name := "fnExactWorstDays", fn := fun _ => fun
  | [d] => { results := [.lit (.bool true)], args := [d] }
  | _ => none }
def fnExactWorstDaysRow : OpenClaim := { program := "ytamolhhccfnlfaa", sum := "4bbae3cf1544e5b5674bf789f459d95f002c25c8e0fe57108cdeab24ab91d200", func := "loop.example/g01013/laws.FnExactWorstDays", spec := "fnExactWorstDays", unfollowed := true, recurses := true, apart := false }
def FnExactWorstDaysSaid : Prop := fnExactWorstDaysRow.holds Try.pinned (OpenSpec.ofChange fnExactWorstDaysSpec)

/-- ITS FALSE NEIGHBOUR: 'it returns false'. Refute it at one input. -/
def fnExactWorstDaysWrong : ChangeSpec := { name := "fnExactWorstDays", fn := fun _ => fun
  | [d] => { results := [.lit (.bool false)], args := [d] }
  | _ => none }
def FnExactWorstDaysWrongFalsely : Prop := fnExactWorstDaysRow.holds Try.pinned (OpenSpec.ofChange fnExactWorstDaysWrong)

/-- 'laws.FnExactTableOf': WHATEVER THE INPUT: true; the input reads as it did. -/
def fnExactTableOfSpec : ChangeSpec := { name := "fnExactTableOf", fn := fun _ => fun
  | [d] => { results := [.lit (.bool true)], args := [d] }
  | _ => none }
def fnExactTableOfRow : OpenClaim := { program := "ytamolhhccfnlfaa", sum := "4bbae3cf1544e5b5674bf789f459d95f002c25c8e0fe57108cdeab24ab91d200", func := "loop.example/g01013/laws.FnExactTableOf", spec := "fnExactTableOf", apart := false }
def FnExactTableOfSaid : Prop := fnExactTableOfRow.holds Try.pinned (OpenSpec.ofChange fnExactTableOfSpec)

/-- ITS FALSE NEIGHBOUR: 'it returns false'. Refute it at one input. -/
def fnExactTableOfWrong : ChangeSpec := { name := "fnExactTableOf", fn := fun _ => fun
  | [d] => { results := [.lit (.bool false)], args := [d] }
  | _ => none }
def FnExactTableOfWrongFalsely : Prop := fnExactTableOfRow.holds Try.pinned (OpenSpec.ofChange fnExactTableOfWrong)

/-- 'laws.FnExactWeakestStand': WHATEVER THE INPUT: true; the input reads as it did. -/
def fnExactWeakestStandSpec : ChangeSpec := { name := "fnExactWeakestStand", fn := fun _ => fun
  | [d1, d2] => { results := [.lit (.bool true)], args := [d1, d2] }
  | _ => none }
def fnExactWeakestStandRow : OpenClaim := { program := "ytamolhhccfnlfaa", sum := "4bbae3cf1544e5b5674bf789f459d95f002c25c8e0fe57108cdeab24ab91d200", func := "loop.example/g01013/laws.FnExactWeakestStand", spec := "fnExactWeakestStand", apart := false }
def FnExactWeakestStandSaid : Prop := fnExactWeakestStandRow.holds Try.pinned (OpenSpec.ofChange fnExactWeakestStandSpec)

/-- ITS FALSE NEIGHBOUR: 'it returns false'. Refute it at one input. -/
def fnExactWeakestStandWrong : ChangeSpec := { name := "fnExactWeakestStand", fn := fun _ => fun
  | [d1, d2] => { results := [.lit (.bool false)], args := [d1, d2] }
  | _ => none }
def FnExactWeakestStandWrongFalsely : Prop := fnExactWeakestStandRow.holds Try.pinned (OpenSpec.ofChange fnExactWeakestStandWrong)

/-- 'laws.FnVerification': WHATEVER THE INPUT: true; the input reads as it did. -/
def fnVerificationSpec : ChangeSpec := { name := "fnVerification", fn := fun _ => fun
  | [d1, d2] => { results := [.lit (.bool true)], args := [d1, d2] }
  | _ => none }
def fnVerificationRow : OpenClaim := { program := "ytamolhhccfnlfaa", sum := "4bbae3cf1544e5b5674bf789f459d95f002c25c8e0fe57108cdeab24ab91d200", func := "loop.example/g01013/laws.FnVerification", spec := "fnVerification", unfollowed := true, recurses := true, apart := false }
def FnVerificationSaid : Prop := fnVerificationRow.holds Try.pinned (OpenSpec.ofChange fnVerificationSpec)

/-- ITS FALSE NEIGHBOUR: 'it returns false'. Refute it at one input. -/
def fnVerificationWrong : ChangeSpec := { name := "fnVerification", fn := fun _ => fun
  | [d1, d2] => { results := [.lit (.bool false)], args := [d1, d2] }
  | _ => none }
def FnVerificationWrongFalsely : Prop := fnVerificationRow.holds Try.pinned (OpenSpec.ofChange fnVerificationWrong)

/-- 'laws.FnExactProtectedStands': WHATEVER THE INPUT: true; the input reads as it did. -/
def fnExactProtectedStandsSpec : ChangeSpec := { name := "fnExactProtectedStands", fn := fun _ => fun
  | [d1, d2, d3] => { results := [.lit (.bool true)], args := [d1, d2, d3] }
  | _ => none }
def fnExactProtectedStandsRow : OpenClaim := { program := "ytamolhhccfnlfaa", sum := "4bbae3cf1544e5b5674bf789f459d95f002c25c8e0fe57108cdeab24ab91d200", func := "loop.example/g01013/laws.FnExactProtectedStands", spec := "fnExactProtectedStands", apart := false }
def FnExactProtectedStandsSaid : Prop := fnExactProtectedStandsRow.holds Try.pinned (OpenSpec.ofChange fnExactProtectedStandsSpec)

/-- ITS FALSE NEIGHBOUR: 'it returns false'. Refute it at one input. -/
def fnExactProtectedStandsWrong : ChangeSpec := { name := "fnExactProtectedStands", fn := fun _ => fun
  | [d1, d2, d3] => { results := [.lit (.bool false)], args := [d1, d2, d3] }
  | _ => none }
def FnExactProtectedStandsWrongFalsely : Prop := fnExactProtectedStandsRow.holds Try.pinned (OpenSpec.ofChange fnExactProtectedStandsWrong)

/- THE SECOND FORM. 'bulk': how many values and letters a reading holds, each counted each time it is reached (what is shared counts as often as it is met; a slice's spare places count too). A statement '..UptoSaid' is the law's where the arguments, and the package variables that the reading takes, are together of bulk at most 1048576: NARROWER than '..Said'. Prove '..Said' where nothing that the law and all that it calls make is longer than what came in: it says more and counts as full. Else prove '..UptoSaid'. A law counts once. -/
mutual
def uptoBulk {H : Type} : DataW H → Nat
  | .lit (.string bytes) => bytes.length + 1
  | .lit _ => 1
  | .nil => 1
  | .ptr d => uptoBulk d + 1
  | .slice elems spare => uptoBulkAll elems + uptoBulkAll spare + 1
  | .agg parts => uptoBulkAll parts + 1
  | .iface _ d => uptoBulk d + 1
  | .map entries => uptoBulkEntries entries + 1
  | .held _ => 1
def uptoBulkAll {H : Type} : List (DataW H) → Nat
  | [] => 0
  | d :: r => uptoBulk d + uptoBulkAll r
def uptoBulkEntries {H : Type} : List (Lit × DataW H) → Nat
  | [] => 0
  | x :: r => uptoBulkEntry x + uptoBulkEntries r
def uptoBulkEntry {H : Type} : Lit × DataW H → Nat
  | (.string bytes, d) => bytes.length + uptoBulk d + 1
  | (_, d) => uptoBulk d + 1
 end
def uptoSmall : (H : Type) → List (DataW H) → Bool := fun _ ds => decide (uptoBulkAll ds ≤ 1048576)
def OpenSpec.upto (s : _root_.Go.ChangeSpec) : _root_.Go.OpenSpec := { _root_.Go.OpenSpec.ofChange s with cond := some uptoSmall }

/-- 'laws.FnExactFalseHigh', WHERE WHAT IT READS IS OF BULK AT MOST 1048576: true; the input reads as it did. -/
def fnExactFalseHighUptoRow : OpenClaim := { program := "ytamolhhccfnlfaa", sum := "4bbae3cf1544e5b5674bf789f459d95f002c25c8e0fe57108cdeab24ab91d200", func := "loop.example/g01013/laws.FnExactFalseHigh", spec := "fnExactFalseHigh", unfollowed := true, recurses := true, apart := false, narrowed := true }
def FnExactFalseHighUptoSaid : Prop := fnExactFalseHighUptoRow.holds Try.pinned (OpenSpec.upto fnExactFalseHighSpec)

/-- 'laws.FnExactMissedHigh', WHERE WHAT IT READS IS OF BULK AT MOST 1048576: true; the input reads as it did. -/
def fnExactMissedHighUptoRow : OpenClaim := { program := "ytamolhhccfnlfaa", sum := "4bbae3cf1544e5b5674bf789f459d95f002c25c8e0fe57108cdeab24ab91d200", func := "loop.example/g01013/laws.FnExactMissedHigh", spec := "fnExactMissedHigh", unfollowed := true, recurses := true, apart := false, narrowed := true }
def FnExactMissedHighUptoSaid : Prop := fnExactMissedHighUptoRow.holds Try.pinned (OpenSpec.upto fnExactMissedHighSpec)

/-- 'laws.FnExactMostFelled', WHERE WHAT IT READS IS OF BULK AT MOST 1048576: true; the input reads as it did. -/
def fnExactMostFelledUptoRow : OpenClaim := { program := "ytamolhhccfnlfaa", sum := "4bbae3cf1544e5b5674bf789f459d95f002c25c8e0fe57108cdeab24ab91d200", func := "loop.example/g01013/laws.FnExactMostFelled", spec := "fnExactMostFelled", apart := false, narrowed := true }
def FnExactMostFelledUptoSaid : Prop := fnExactMostFelledUptoRow.holds Try.pinned (OpenSpec.upto fnExactMostFelledSpec)

/-- 'laws.FnExactHitShare', WHERE WHAT IT READS IS OF BULK AT MOST 1048576: true; the input reads as it did. -/
def fnExactHitShareUptoRow : OpenClaim := { program := "ytamolhhccfnlfaa", sum := "4bbae3cf1544e5b5674bf789f459d95f002c25c8e0fe57108cdeab24ab91d200", func := "loop.example/g01013/laws.FnExactHitShare", spec := "fnExactHitShare", unfollowed := true, recurses := true, apart := false, narrowed := true }
def FnExactHitShareUptoSaid : Prop := fnExactHitShareUptoRow.holds Try.pinned (OpenSpec.upto fnExactHitShareSpec)

/-- 'laws.FnForest', WHERE WHAT IT READS IS OF BULK AT MOST 1048576: true; the input reads as it did. -/
def fnForestUptoRow : OpenClaim := { program := "ytamolhhccfnlfaa", sum := "4bbae3cf1544e5b5674bf789f459d95f002c25c8e0fe57108cdeab24ab91d200", func := "loop.example/g01013/laws.FnForest", spec := "fnForest", apart := false, narrowed := true }
def FnForestUptoSaid : Prop := fnForestUptoRow.holds Try.pinned (OpenSpec.upto fnForestSpec)

/-- 'laws.FnExactSkillOf', WHERE WHAT IT READS IS OF BULK AT MOST 1048576: true; the input reads as it did. -/
def fnExactSkillOfUptoRow : OpenClaim := { program := "ytamolhhccfnlfaa", sum := "4bbae3cf1544e5b5674bf789f459d95f002c25c8e0fe57108cdeab24ab91d200", func := "loop.example/g01013/laws.FnExactSkillOf", spec := "fnExactSkillOf", unfollowed := true, recurses := true, apart := false, narrowed := true }
def FnExactSkillOfUptoSaid : Prop := fnExactSkillOfUptoRow.holds Try.pinned (OpenSpec.upto fnExactSkillOfSpec)

/-- 'laws.FnExactWorstDays', WHERE WHAT IT READS IS OF BULK AT MOST 1048576: true; the input reads as it did. -/
def fnExactWorstDaysUptoRow : OpenClaim := { program := "ytamolhhccfnlfaa", sum := "4bbae3cf1544e5b5674bf789f459d95f002c25c8e0fe57108cdeab24ab91d200", func := "loop.example/g01013/laws.FnExactWorstDays", spec := "fnExactWorstDays", unfollowed := true, recurses := true, apart := false, narrowed := true }
def FnExactWorstDaysUptoSaid : Prop := fnExactWorstDaysUptoRow.holds Try.pinned (OpenSpec.upto fnExactWorstDaysSpec)

/-- 'laws.FnExactTableOf', WHERE WHAT IT READS IS OF BULK AT MOST 1048576: true; the input reads as it did. -/
def fnExactTableOfUptoRow : OpenClaim := { program := "ytamolhhccfnlfaa", sum := "4bbae3cf1544e5b5674bf789f459d95f002c25c8e0fe57108cdeab24ab91d200", func := "loop.example/g01013/laws.FnExactTableOf", spec := "fnExactTableOf", apart := false, narrowed := true }
def FnExactTableOfUptoSaid : Prop := fnExactTableOfUptoRow.holds Try.pinned (OpenSpec.upto fnExactTableOfSpec)

/-- 'laws.FnExactWeakestStand', WHERE WHAT IT READS IS OF BULK AT MOST 1048576: true; the input reads as it did. -/
def fnExactWeakestStandUptoRow : OpenClaim := { program := "ytamolhhccfnlfaa", sum := "4bbae3cf1544e5b5674bf789f459d95f002c25c8e0fe57108cdeab24ab91d200", func := "loop.example/g01013/laws.FnExactWeakestStand", spec := "fnExactWeakestStand", apart := false, narrowed := true }
def FnExactWeakestStandUptoSaid : Prop := fnExactWeakestStandUptoRow.holds Try.pinned (OpenSpec.upto fnExactWeakestStandSpec)

/-- 'laws.FnVerification', WHERE WHAT IT READS IS OF BULK AT MOST 1048576: true; the input reads as it did. -/
def fnVerificationUptoRow : OpenClaim := { program := "ytamolhhccfnlfaa", sum := "4bbae3cf1544e5b5674bf789f459d95f002c25c8e0fe57108cdeab24ab91d200", func := "loop.example/g01013/laws.FnVerification", spec := "fnVerification", unfollowed := true, recurses := true, apart := false, narrowed := true }
def FnVerificationUptoSaid : Prop := fnVerificationUptoRow.holds Try.pinned (OpenSpec.upto fnVerificationSpec)

/-- 'laws.FnExactProtectedStands', WHERE WHAT IT READS IS OF BULK AT MOST 1048576: true; the input reads as it did. -/
def fnExactProtectedStandsUptoRow : OpenClaim := { program := "ytamolhhccfnlfaa", sum := "4bbae3cf1544e5b5674bf789f459d95f002c25c8e0fe57108cdeab24ab91d200", func := "loop.example/g01013/laws.FnExactProtectedStands", spec := "fnExactProtectedStands", apart := false, narrowed := true }
def FnExactProtectedStandsUptoSaid : Prop := fnExactProtectedStandsUptoRow.holds Try.pinned (OpenSpec.upto fnExactProtectedStandsSpec)

end Rows
end Go.Proofs.Ytamolhhccfnlfaa
