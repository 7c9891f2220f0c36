/- The laws package's comparison of slices of slices of integers, the second with capacities left open. No condition beyond the theorems' own. -/
import Derived.Test.YtgannknkohomdaaLTIntSS
import Derived.Test.YtgannknkohomdaaRowSG
namespace Go.Proofs.Ytgannknkohomdaa
set_option linter.unusedSimpArgs false
set_option linter.unusedVariables false
open Go.RowKit
set_option maxHeartbeats 400000
theorem eqInt64SG_any (v1 v0 : Value) (b1 t1 b0 t0 n : Nat) (C : Nat → List Int) (w : World) (R1 : RowF 55 2 w b1 t1 v1 n C) (R0 : RowG 55 2 w b0 t0 v0 n C) (hn : n ≤ 1048578) (hl : ∀ i, (C i).length ≤ 1048576) :
    Calls Try.prog 14 #[v1, v0] w fun e w' => e = .returned (.bool true) ∧ Below w.heap.size w w' := by
  have H1 := Lib.hid R1
  have H0 := Lib.hid R0
  have HL := Lib.hid hl
  obtain ⟨A1, c1, e1⟩ := R1.form
  obtain ⟨A0, c0, e0⟩ := R0.form
  clear R1 R0 hl
  subst e1
  subst e0
  go_enter Try.func14, Try.ntmps14
  go_wp2_with fail
  go_loopw [5] (fun i wr => ∃ k : Nat, k ≤ n ∧ i = .int .i64 k ∧ Below w.heap.size w wr) (fun i wr => n - (intOf i).toNat)
  case atStart => exact ⟨0, by omega, rfl, Below.refl _ _⟩
  case round =>
    obtain ⟨k, hk, rfl, hbel⟩ := hrel
    by_cases hlt : k < n
    · obtain ⟨bb1, o1, g1, rfl, hb1, hc1, O1, _, _, _⟩ := (H1.out.below hbel).at tneSS hlt
      obtain ⟨bb0, o0, g0, cc0, rfl, hb0, hc0, O0⟩ := (H0.out.below hbel).at hlt
      have q1 := Past.cell hc1 hb1
      have q0 := Past.cell hc0 hb0
      have hcall : Hid (∀ y : Past wr, Calls Try.prog 29 #[.slice (some ⟨g1, 0, none⟩) (C k).length (C k).length, .slice (some ⟨g0, 0, none⟩) (C k).length cc0] y.w fun e w' => e = .returned (.bool true) ∧ Below y.w.heap.size y.w w') :=
        fun y => eqInt64S_any _ _ _ _ (C k) y.w (O1.below y.h).argS (O0.below y.h) (by have := HL.out k; omega)
      clear hc1 hc0 O1 O0 H1 H0
      go_wp2_with fail
      refine wp_region_past (by kernel_rfl) (by kernel_rfl) ?_
      repeat (go_big_quiet_step ((go_at_call 29; exact Past.call _ (hcall.out _))))
      refine wpQuiet_nil ?_
      intro W1 hw'
      obtain ⟨⟨W_, hb1⟩, hw''⟩ := hw'
      subst hw''
      go_wp2
      go_roundw
      case rel => exact ⟨k + 1, by omega, by go_num, Bel.trans hbel hb1⟩
      case measure => simp [intOf]; omega
    · obtain rfl : k = n := by omega
      go_wp2
      go_ret
      exact ⟨rfl, hbel⟩
end Go.Proofs.Ytgannknkohomdaa
