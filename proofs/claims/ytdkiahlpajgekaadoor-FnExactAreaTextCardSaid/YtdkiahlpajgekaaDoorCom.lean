/- Contracts of the small functions that many others call. -/
import Derived.Test.YtdkiahlpajgekaaDoorChecked
import Derived.Test.YtdkiahlpajgekaaDoorTypes
namespace Go.Proofs.YtdkiahlpajgekaaDoor
set_option linter.unusedSimpArgs false
set_option linter.unusedVariables false
open Go.RowKit
set_option maxHeartbeats 400000
theorem within_any (n lo hi : Int) (w : World) : Calls Tryd.prog 16 #[.int .i64 n, .int .i64 lo, .int .i64 hi] w fun e w' => e = .returned (.bool (inr lo hi n)) ∧ w = w' := by
  go_enter Tryd.func16, Tryd.ntmps16
  go_wp2
  all_goals
    go_ret
    exact ⟨ret_bool (by simp [inr, *] <;> omega), rfl⟩
theorem l00In_any (n lo hi : Int) (w : World) : Calls Tryd.prog 13 #[.int .i64 n, .int .i64 lo, .int .i64 hi] w fun e w' => e = .returned (.bool (inr lo hi n)) ∧ w = w' := by
  go_enter Tryd.func13, Tryd.ntmps13
  go_wp2
  all_goals
    go_ret
    exact ⟨ret_bool (by simp [inr, *] <;> omega), rfl⟩
end Go.Proofs.YtdkiahlpajgekaaDoor
