/- Contracts of the small functions that many others call. -/
import Derived.Test.YtdkiahlpajgekaaChecked
import Derived.Test.YtdkiahlpajgekaaTypes
namespace Go.Proofs.Ytdkiahlpajgekaa
set_option linter.unusedSimpArgs false
set_option linter.unusedVariables false
open Go.RowKit
set_option maxHeartbeats 400000
theorem within_any (n lo hi : Int) (w : World) : Calls Try.prog 33 #[.int .i64 n, .int .i64 lo, .int .i64 hi] w fun e w' => e = .returned (.bool (inr lo hi n)) ∧ w = w' := by
  go_enter Try.func33, Try.ntmps33
  go_wp2
  all_goals
    go_ret
    exact ⟨ret_bool (by simp [inr, *] <;> omega), rfl⟩
theorem l00In_any (n lo hi : Int) (w : World) : Calls Try.prog 21 #[.int .i64 n, .int .i64 lo, .int .i64 hi] w fun e w' => e = .returned (.bool (inr lo hi n)) ∧ w = w' := by
  go_enter Try.func21, Try.ntmps21
  go_wp2
  all_goals
    go_ret
    exact ⟨ret_bool (by simp [inr, *] <;> omega), rfl⟩
theorem abs_any (n : Int) (w : World) (h1 : -1000000000000000 ≤ n) (h2 : n ≤ 1000000000000000) : Calls Try.prog 51 #[.int .i64 n] w fun e w' => e = .returned (.int .i64 (max n (-n))) ∧ w = w' := by
  go_enter Try.func51, Try.ntmps51
  go_wp2
  all_goals
    go_ret
    exact ⟨ret_int (by omega), rfl⟩
theorem divRound_any (a b : Int) (w : World) (hb : 0 < b) (hb2 : b ≤ 1000000000000000) (h1 : -1000000000000000 ≤ a) (h2 : a ≤ 1000000000000000) :
    Calls Try.prog 50 #[.int .i64 a, .int .i64 b] w fun e w' => e = .returned (.int .i64 (rdiv a b)) ∧ ∃ n, w.drewN n = w' := by
  have t1 := tdiv_bd a b hb h1 h2
  have t2 := tmod_bd a b hb
  have hne : (b == 0) = false := by simp; omega
  have hm : b ≠ -1 := by omega
  go_enter Try.func50, Try.ntmps50
  go_wp2
  go_quiet ((go_at_call 51; exact Calls.quiet_of_same' (abs_any _ _ (by omega) (by omega))))
  go_wp2_with (go_at_call 51; refine (abs_any _ _ (by omega) (by omega)).mono ?_; rintro e w' ⟨rfl, rfl⟩)
  · go_ret; exact ⟨ret_int (rd_1 hb (by assumption) (by assumption)), _, rfl⟩
  · go_ret; exact ⟨ret_int (rd_2 hb (by assumption) (by assumption)), _, rfl⟩
  · go_ret; exact ⟨ret_int (rd_3 hb (by assumption)), _, rfl⟩
theorem l01Div_any (a b : Int) (w : World) (hb : 0 < b) (hb2 : b ≤ 1000000000000000) (h1 : -1000000000000000 ≤ a) (h2 : a ≤ 1000000000000000) :
    Calls Try.prog 48 #[.int .i64 a, .int .i64 b] w fun e w' => e = .returned (.int .i64 (rdiv a b)) ∧ w = w' := by
  have hbf : decide (b < 0) = false := by simp; omega
  have hr := rdiv_bd a b hb h1 h2
  by_cases ha : a < 0
  · rw [rdiv, if_pos ha] at hr ⊢
    go_enter Try.func48, Try.ntmps48
    go_wp2
    go_ret
    exact ⟨rfl, rfl⟩
  · rw [rdiv, if_neg ha] at hr ⊢
    go_enter Try.func48, Try.ntmps48
    go_wp2
    go_ret
    exact ⟨rfl, rfl⟩
end Go.Proofs.Ytdkiahlpajgekaa
