/- The helpers of the laws package for changes (comparison) do what they say. No condition beyond the theorems own. -/
import Derived.Test.YtocipeididkllaaLTSetting
namespace Go.Proofs.Ytocipeididkllaa
set_option linter.unusedSimpArgs false
set_option linter.unusedVariables false
open Go.RowKit
set_option maxHeartbeats 400000
theorem eqChange_any (x : SChange) (w : World) : Calls Try.prog 49 #[.agg #[.int .i64 x.Kind, .string x.Name, .int .i64 x.Val], .agg #[.int .i64 x.Kind, .string x.Name, .int .i64 x.Val]] w fun e w' => e = .returned (.bool true) ∧ Below w.heap.size w w' := by
  go_enter Try.func49, Try.ntmps49
  go_wp2_with (go_at_call 50; refine (eqSetting_any ⟨x.Name, x.Val⟩ _).mono ?_; rintro e w2 ⟨rfl, hb2⟩)
  go_ret
  exact ⟨rfl, Bel.trans (Bel.alloc (Bel.alloc (Below.refl _ _) _) _) hb2⟩
end Go.Proofs.Ytocipeididkllaa
