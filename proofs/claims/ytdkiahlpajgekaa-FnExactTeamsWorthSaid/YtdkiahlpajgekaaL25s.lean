/- Chapter 25: the chance to survive some minutes: the walks. -/
import Derived.Test.YtdkiahlpajgekaaCom
import Derived.Test.YtdkiahlpajgekaaLst
namespace Go.Proofs.Ytdkiahlpajgekaa
set_option linter.unusedSimpArgs false
set_option linter.unusedVariables false
open Go.RowKit
set_option maxHeartbeats 1000000
set_option maxRecDepth 100000
def blendV (x0 y0 x1 y1 x : Int) : Int := if x ≤ x0 ∨ x1 ≤ x0 then y0 else if x1 ≤ x then y1 else y0 + rdiv ((y1 - y0) * (x - x0)) (x1 - x0)
def surv (m : Int) : Int :=
  if m < 10 then blendV 0 1000 10 930 m else if m < 15 then blendV 10 930 15 900 m else if m < 35 then blendV 15 900 35 320 m else if m < 60 then blendV 35 320 60 280 m
  else if m < 90 then blendV 60 280 90 240 m else if m < 130 then blendV 90 240 130 100 m else blendV 130 100 180 30 m
theorem surv_bd {m : Int} (h : 0 ≤ m) : 0 ≤ surv m ∧ surv m ≤ 1000 := by
  unfold surv blendV rdiv
  repeat' split
  all_goals omega
theorem surv_0 {m : Int} (h2 : m < 10) : blendV 0 1000 10 930 m = surv m := by rw [surv, if_pos h2]
theorem surv_1 {m : Int} (h : 10 ≤ m) (h2 : m < 15) : blendV 10 930 15 900 m = surv m := by rw [surv, if_neg (by omega), if_pos h2]
theorem surv_2 {m : Int} (h : 15 ≤ m) (h2 : m < 35) : blendV 15 900 35 320 m = surv m := by rw [surv, if_neg (by omega), if_neg (by omega), if_pos h2]
theorem surv_3 {m : Int} (h : 35 ≤ m) (h2 : m < 60) : blendV 35 320 60 280 m = surv m := by rw [surv, if_neg (by omega), if_neg (by omega), if_neg (by omega), if_pos h2]
theorem surv_4 {m : Int} (h : 60 ≤ m) (h2 : m < 90) : blendV 60 280 90 240 m = surv m := by rw [surv, if_neg (by omega), if_neg (by omega), if_neg (by omega), if_neg (by omega), if_pos h2]
theorem surv_5 {m : Int} (h : 90 ≤ m) (h2 : m < 130) : blendV 90 240 130 100 m = surv m := by rw [surv, if_neg (by omega), if_neg (by omega), if_neg (by omega), if_neg (by omega), if_neg (by omega), if_pos h2]
theorem surv_6 {m : Int} (h : 130 ≤ m) : blendV 130 100 180 30 m = surv m := by rw [surv, if_neg (by omega), if_neg (by omega), if_neg (by omega), if_neg (by omega), if_neg (by omega), if_neg (by omega)]
theorem surv_end {m : Int} (h : 180 ≤ m) : surv m = 30 := by rw [← surv_6 (by omega), blendV, if_neg (by omega), if_pos h]
theorem rdiv_0 (b : Int) (hb : 0 < b) : rdiv 0 b = 0 := by
  unfold rdiv
  rw [if_neg (by omega)]
  have : (2 * 0 + b) / (2 * b) = 0 := Int.ediv_eq_zero_of_lt (by omega) (by omega)
  exact this
theorem blendV_mid {x0 y0 x1 y1 x : Int} (h0 : x0 ≤ x) (h1 : x < x1) : blendV x0 y0 x1 y1 x = y0 + rdiv ((y1 - y0) * (x - x0)) (x1 - x0) := by
  unfold blendV
  by_cases e : x = x0
  · subst e
    rw [if_pos (Or.inl (Int.le_refl _)), Int.sub_self, Int.mul_zero, rdiv_0 _ (by omega), Int.add_zero]
  · rw [if_neg (by omega), if_neg (by omega)]
theorem blend_any (x0 y0 x1 y1 x : Int) (w : World) (h0 : 0 ≤ x0) (h1 : x0 < x1) (h2 : x1 ≤ 200) (h3 : 0 ≤ y0) (h4 : y0 ≤ 1000) (h5 : 0 ≤ y1) (h6 : y1 ≤ 1000) (h7 : 0 ≤ x) (h8 : x ≤ 100000) :
    Calls Try.prog 43 #[.int .i64 x0, .int .i64 y0, .int .i64 x1, .int .i64 y1, .int .i64 x] w fun e w' => e = .returned (.int .i64 (blendV x0 y0 x1 y1 x)) ∧ ∃ n, w.drewN n = w' := by
  by_cases ha : x ≤ x0
  · have e1 : blendV x0 y0 x1 y1 x = y0 := by rw [blendV, if_pos (Or.inl ha)]
    rw [e1]
    clear e1
    go_enter Try.func43, Try.ntmps43
    go_wp2
    go_ret
    exact ⟨rfl, 0, rfl⟩
  by_cases hb : x1 ≤ x
  · have e1 : blendV x0 y0 x1 y1 x = y1 := by rw [blendV, if_neg (by omega), if_pos hb]
    rw [e1]
    clear e1
    go_enter Try.func43, Try.ntmps43
    go_wp2
    go_ret
    exact ⟨rfl, 0, rfl⟩
  have e1 : blendV x0 y0 x1 y1 x = y0 + rdiv ((y1 - y0) * (x - x0)) (x1 - x0) := by rw [blendV, if_neg (by omega), if_neg hb]
  rw [e1]
  clear e1
  have hm0 : (y1 - y0) * (x - x0) ≤ 1000 * (x - x0) := Int.mul_le_mul_of_nonneg_right (by omega) (by omega)
  have hm1 : (-1000) * (x - x0) ≤ (y1 - y0) * (x - x0) := Int.mul_le_mul_of_nonneg_right (by omega) (by omega)
  obtain ⟨p, hp⟩ : ∃ p, (y1 - y0) * (x - x0) = p := ⟨_, rfl⟩
  rw [hp] at hm0 hm1 ⊢
  have hr : -200000000 ≤ rdiv p (x1 - x0) ∧ rdiv p (x1 - x0) ≤ 200000000 := by
    unfold rdiv
    split
    · have h9 : (x1 - x0 - 2 * p) / (2 * (x1 - x0)) ≤ x1 - x0 - 2 * p := Int.ediv_le_self _ (by omega)
      have h10 : 0 ≤ (x1 - x0 - 2 * p) / (2 * (x1 - x0)) := Int.ediv_nonneg (by omega) (by omega)
      omega
    · have h9 : (2 * p + (x1 - x0)) / (2 * (x1 - x0)) ≤ 2 * p + (x1 - x0) := Int.ediv_le_self _ (by omega)
      have h10 : 0 ≤ (2 * p + (x1 - x0)) / (2 * (x1 - x0)) := Int.ediv_nonneg (by omega) (by omega)
      omega
  have hw := IntWalk.i64_in p (by omega)
  go_enter Try.func43, Try.ntmps43
  go_wp2_with (go_at_call 50; refine (divRound_any p (x1 - x0) _ (by omega) (by omega) (by omega) (by omega)).mono ?_; rintro e w' ⟨rfl, nn, rfl⟩)
  go_ret
  exact ⟨rfl, nn, rfl⟩
end Go.Proofs.Ytdkiahlpajgekaa
