/-
  DERIVED. GIVEN WITH THE SEED: THE CARDS: each row of YtdkiahlpajgekaaDoorRows.lean that lists a variable, with what it lists TIED to the program's text (the seventh form; the later family's looks); each row that meets fmt, with fmt's text TOLD by the authors' own Lean function (tested against real Go, not proved from fmt's source: count such statements apart). THE CARD IS WHAT COUNTS. Prove the row's statement (the work); the ties are given (YtdkiahlpajgekaaDoorTie.lean); close each card by the builder's one call (the guide's Derived/Test/ToyasCard.lean, 'card_holds'). Laid BY PROGRAM, IN A SANDBOX (cutbox-door.mjs). By AI agents, Wed Nov 11 2026. No macro, syntax, notation, axiom, sorry.
-/
import Derived.Test.YtdkiahlpajgekaaDoorRows
import GoSem.ClaimSeven
namespace Go.Proofs.YtdkiahlpajgekaaDoor
namespace Rows

/-- THE TIED CARD OF 'laws.FnExactAreaText'. -/
def fnExactAreaTextCard : Claim7 := { stood := { row := fnExactAreaTextRow, standIns := [], harness := (true, "a16c4fd70074c2fbe8396eaacc19d08dea234f769faf9cc765a3f0b4baf2781d"), looks := false }, kinds := [], alts := [], laidByText := true, laidKinds := [.data, .data, .data], laidTests := true, laidLooks := .later }
def FnExactAreaTextCardSaid : Prop := Claim7.holds Tryd.pinned (.plain (OpenSpec.ofChange fnExactAreaTextSpec)) fnExactAreaTextCard

/-- THE SECOND FORM's CARD OF 'laws.FnExactAreaText'. -/
def fnExactAreaTextUptoCard : Claim7 := { stood := { row := fnExactAreaTextUptoRow, standIns := [], harness := (true, "a16c4fd70074c2fbe8396eaacc19d08dea234f769faf9cc765a3f0b4baf2781d"), looks := false }, kinds := [], alts := [], laidByText := true, laidKinds := [.data, .data, .data], laidTests := true, laidLooks := .later }
def FnExactAreaTextUptoCardSaid : Prop := Claim7.holds Tryd.pinned (.plain (OpenSpec.upto fnExactAreaTextSpec)) fnExactAreaTextUptoCard
end Rows
end Go.Proofs.YtdkiahlpajgekaaDoor
