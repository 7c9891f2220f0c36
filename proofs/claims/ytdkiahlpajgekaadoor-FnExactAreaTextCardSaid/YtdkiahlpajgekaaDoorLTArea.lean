/- The helpers of the laws package for the type Area (sizes, copies, comparisons) do what they say. No condition beyond the theorems own. -/
import Derived.Test.YtdkiahlpajgekaaDoorChecked
import Derived.Test.YtdkiahlpajgekaaDoorApp
namespace Go.Proofs.YtdkiahlpajgekaaDoor
set_option linter.unusedSimpArgs false
set_option linter.unusedVariables false
open Go.RowKit
set_option maxHeartbeats 400000
theorem toArea_any (x : SArea) (w : World) : Calls Tryd.prog 6 #[.agg #[.string x.Id, .int .i64 x.Chance, .int .i64 x.Minutes]] w fun e w' => e = .returned (.agg #[.string x.Id, .int .i64 x.Chance, .int .i64 x.Minutes]) ∧ Below w.heap.size w w' := by
  go_enter Tryd.func6, Tryd.ntmps6
  go_wp2
  exact bodyPost_ret (v := .agg #[.string x.Id, .int .i64 x.Chance, .int .i64 x.Minutes]) (by simp [results, Tryd.results6, go_sem]) rfl ⟨rfl, (by repeat (first | (with_reducible assumption) | (with_reducible exact Below.refl _ _) | (with_reducible refine Bel.alloc ?_ _) | (with_reducible refine Below.drew ?_) | (with_reducible refine Bel.drewN ?_ _) | (with_reducible refine Bel.setCell ?_ (by (try simp) <;> omega) _) | (with_reducible refine Bel.trans ?_ (by assumption))))⟩
theorem szArea_any (x : SArea) (left : Int) (w : World) (hf : x.Id.size ≤ 9223372036854775807) (h0 : 0 ≤ left) (h1 : left ≤ 1048576) :
    Calls Tryd.prog 4 #[.agg #[.string x.Id, .int .i64 x.Chance, .int .i64 x.Minutes], .int .i64 left] w fun e w' => (∃ r : Int, e = .returned (.int .i64 r) ∧ -1 ≤ r ∧ r ≤ left ∧ (0 ≤ r → (x.Id.size : Int) ≤ left)) ∧ Below w.heap.size w w' := by
  go_enter Tryd.func4, Tryd.ntmps4
  go_wp2
  all_goals
    go_ret
    exact ⟨⟨_, rfl, by omega, by omega, by omega⟩, (by repeat (first | (with_reducible assumption) | (with_reducible exact Below.refl _ _) | (with_reducible refine Bel.alloc ?_ _) | (with_reducible refine Below.drew ?_) | (with_reducible refine Bel.drewN ?_ _) | (with_reducible refine Bel.setCell ?_ (by (try simp) <;> omega) _) | (with_reducible refine Bel.trans ?_ (by assumption))))⟩
end Go.Proofs.YtdkiahlpajgekaaDoor
