/- Chapter 8: the worst class, recent tests, their mean class: the walks. -/
import Derived.Test.YtlicpgmcnebpmaaL08b
import Derived.Test.YtlicpgmcnebpmaaApp
namespace Go.Proofs.Ytlicpgmcnebpmaa
set_option linter.unusedSimpArgs false
set_option linter.unusedVariables false
open Go.RowKit
set_option maxHeartbeats 400000
set_option maxRecDepth 100000
theorem vint {a b : Int} (h : a = b) : Value.int .i64 a = .int .i64 b := by rw [h]
theorem WorstClass_any (xs : List STest) (b c : Nat) (w : World) (A : Arr STest.cells 5 w b xs) (hn : xs.length ≤ 1048576) :
    Calls Try.prog 27 #[.slice (some ⟨b, 0, none⟩) xs.length c] w fun e w' => e = .returned (.tuple #[.int .i64 (wcRes xs).1, .int .i64 (wcRes xs).2]) ∧ Below w.heap.size w w' := by
  have HA := Lib.hid A
  clear A
  cases hv : vlTest xs
  · have HV := Lib.hid hv
    clear hv
    go_enter Try.func27, Try.ntmps27
    go_wp2_with (go_at_call 33; refine (Calls.boolIs HV.out (ValidTests_any xs b c _ HA.out hn)).mono ?_; rintro e w1 ⟨rfl, hb1⟩)
    go_ret2
    exact ⟨by rw [wcRes_1 HV.out]; rfl, hb1⟩
  have hlen := vlTest_len hv
  have HV := Lib.hid hv
  clear hv
  by_cases h0 : xs.length = 0
  · have hz : ((xs.length : Int) == 0) = true := beq_iff_eq.mpr (by omega)
    have H0 := Lib.hid h0
    clear h0
    go_enter Try.func27, Try.ntmps27
    go_wp2_with (go_at_call 33; refine (Calls.boolIs HV.out (ValidTests_any xs b c _ HA.out hn)).mono ?_; rintro e w1 ⟨rfl, hb1⟩)
    go_ret2
    exact ⟨by rw [wcRes_3 HV.out H0.out]; rfl, hb1⟩
  have hz : ((xs.length : Int) == 0) = false := beq_eq_false_iff_ne.mpr (by omega)
  have hpos : 0 < xs.length := by omega
  have H0 := Lib.hid h0
  clear h0
  go_enter Try.func27, Try.ntmps27
  go_wp2_with fail
  refine (Calls.boolIs HV.out (ValidTests_any xs b c _ HA.out hn)).mono ?_
  rintro e w1 ⟨rfl, hb1⟩
  obtain ⟨e0, e1, e2, e3, e4⟩ := STest.elem (HA.out.below hb1) hpos
  simp only [Nat.zero_mul, Nat.zero_add] at e0 e1 e2 e3 e4
  have hok0 := vlTest_ok HV.out 0 hpos
  have HK0 := Lib.hid hok0
  obtain ⟨c0, hc0⟩ : ∃ c0, cls xs[0] = c0 := ⟨_, rfl⟩
  have HC0 := Lib.hid hc0
  clear hok0 hc0
  go_wp2_with fail
  refine (Calls.intIs HC0.out (class_any xs[0] _ HK0.out)).mono ?_
  rintro e w2 ⟨rfl, hb2⟩
  have hb1 := Bel.trans hb1 hb2
  clear e0 e1 e2 e3 e4 hb2
  go_wp2_with fail
  go_loopw [4, 21] (fun m i wr => ∃ (k : Nat) (v : Int), k ≤ xs.length ∧ i = .int .i64 k ∧ m = .int .i64 (min c0 v) ∧ wcTo xs k = v ∧ Below w.heap.size w wr) (fun _ i wr => xs.length - (intOf i).toNat)
  case atStart =>
    have := cls_bd xs[0]
    exact ⟨0, 4, by omega, rfl, vint (by have := HC0.out; omega), rfl, hb1⟩
  case round =>
    obtain ⟨k, v, hk, rfl, rfl, hwv, hbel⟩ := hrel
    have HWV := Lib.hid hwv
    clear hwv
    by_cases hlt : k < xs.length
    · obtain ⟨e0, e1, e2, e3, e4⟩ := STest.elem (HA.out.below hbel) hlt
      obtain ⟨q, hq⟩ : ∃ q, cls xs[k] = q := ⟨_, rfl⟩
      have hw1 := wc_at hlt HWV.out
      rw [hq] at hw1
      have HQ := Lib.hid hq
      have HW1 := Lib.hid hw1
      have hok := vlTest_ok HV.out k hlt
      have HOK := Lib.hid hok
      obtain ⟨m, hm⟩ : ∃ m, min c0 v = m := ⟨_, rfl⟩
      rw [hm]
      clear hq hw1 hok
      go_wp2_with fail
      refine calls_box_out ?_
      intro W hbw B
      refine (Calls.intIs HQ.out (class_any xs[k] _ HOK.out)).mono ?_
      rintro e w3 ⟨rfl, hb3⟩
      have hbel := Bel.trans (Bel.trans hbel hbw) hb3
      clear B e0 e1 e2 e3 e4 hbw hb3
      go_wp2
      all_goals
        go_roundw
        case rel => exact ⟨k + 1, min v q, by omega, by go_num, vint (by omega), HW1.out, (by repeat (first | (with_reducible assumption) | (with_reducible exact Below.refl _ _) | (with_reducible refine Bel.alloc ?_ _) | (with_reducible refine Below.drew ?_) | (with_reducible refine Bel.drewN ?_ _) | (with_reducible refine Bel.setCell ?_ (by (try simp) <;> omega) _) | (with_reducible refine Bel.trans ?_ (by assumption))))⟩
        case measure => simp [intOf]; omega
    · have hke : k = xs.length := by omega
      have hle := wc_le0 hpos k (by omega)
      rw [HWV.out, HC0.out] at hle
      have hwv := HWV.out
      rw [hke] at hwv
      have HWL := Lib.hid hwv
      have hmv : min c0 v = v := by omega
      have hex : decide ((k : Int) < (xs.length : Int)) = false := decide_eq_false (by omega)
      rw [hmv]
      clear hwv hke hmv
      go_wp2
      go_ret2
      exact ⟨by rw [wcRes_0 HV.out H0.out HWL.out]; rfl, (by repeat (first | (with_reducible assumption) | (with_reducible exact Below.refl _ _) | (with_reducible refine Bel.alloc ?_ _) | (with_reducible refine Below.drew ?_) | (with_reducible refine Bel.drewN ?_ _) | (with_reducible refine Bel.setCell ?_ (by (try simp) <;> omega) _) | (with_reducible refine Bel.trans ?_ (by assumption))))⟩
theorem sWorstClass_any (xs : List STest) (b c : Nat) (w : World) (A : Arr STest.cells 5 w b xs) (hn : xs.length ≤ 1048576) :
    Calls Try.prog 26 #[.slice (some ⟨b, 0, none⟩) xs.length c] w fun e w' => e = .returned (.tuple #[.int .i64 (wcRes xs).1, .int .i64 (wcRes xs).2]) ∧ Below w.heap.size w w' := by
  have HA := Lib.hid A
  clear A
  cases hv : vlTest xs
  · have HV := Lib.hid hv
    clear hv
    go_enter Try.func26, Try.ntmps26
    go_wp2_with (go_at_call 28; refine (Calls.boolIs HV.out (l08Ok_any xs b c _ HA.out hn)).mono ?_; rintro e w1 ⟨rfl, hb1⟩)
    go_ret2
    exact ⟨by rw [wcRes_1 HV.out]; rfl, hb1⟩
  have hlen := vlTest_len hv
  have HV := Lib.hid hv
  clear hv
  by_cases h0 : xs.length = 0
  · have hz : ((xs.length : Int) == 0) = true := beq_iff_eq.mpr (by omega)
    have H0 := Lib.hid h0
    clear h0
    go_enter Try.func26, Try.ntmps26
    go_wp2_with (go_at_call 28; refine (Calls.boolIs HV.out (l08Ok_any xs b c _ HA.out hn)).mono ?_; rintro e w1 ⟨rfl, hb1⟩)
    go_ret2
    exact ⟨by rw [wcRes_3 HV.out H0.out]; rfl, hb1⟩
  have hz : ((xs.length : Int) == 0) = false := beq_eq_false_iff_ne.mpr (by omega)
  have hpos : 0 < xs.length := by omega
  have H0 := Lib.hid h0
  clear h0
  go_enter Try.func26, Try.ntmps26
  go_wp2_with fail
  refine (Calls.boolIs HV.out (l08Ok_any xs b c _ HA.out hn)).mono ?_
  rintro e w1 ⟨rfl, hb1⟩
  go_wp2_with fail
  go_loopw [4, 5] (fun m i wr => ∃ (k : Nat) (v : Int), k ≤ xs.length ∧ i = .int .i64 k ∧ m = .int .i64 v ∧ wcTo xs k = v ∧ Below w.heap.size w wr) (fun _ i wr => xs.length - (intOf i).toNat)
  case atStart => exact ⟨0, 4, by omega, rfl, rfl, rfl, hb1⟩
  case round =>
    obtain ⟨k, v, hk, rfl, rfl, hwv, hbel⟩ := hrel
    have HWV := Lib.hid hwv
    clear hwv
    by_cases hlt : k < xs.length
    · obtain ⟨e0, e1, e2, e3, e4⟩ := STest.elem (HA.out.below hbel) hlt
      obtain ⟨q, hq⟩ : ∃ q, cls xs[k] = q := ⟨_, rfl⟩
      have hw1 := wc_at hlt HWV.out
      rw [hq] at hw1
      have HQ := Lib.hid hq
      have HW1 := Lib.hid hw1
      have hok := vlTest_ok HV.out k hlt
      have HOK := Lib.hid hok
      clear hq hw1 hok
      go_wp2_with (first | (go_at_call 29; refine (Calls.intIs HQ.out (l08Class_any xs[k] b (k * 5) _ e0 e1 e2 e3 e4 HOK.out)).mono ?_; rintro e w3 ⟨rfl, hb3⟩) | (go_at_call 46; refine (l00Min_any _ _ _).mono ?_; rintro e w4 ⟨rfl, rfl⟩))
      go_roundw
      case rel => exact ⟨k + 1, min v q, by omega, by go_num, rfl, HW1.out, Bel.trans hbel hb3⟩
      case measure => simp [intOf]; omega
    · have hke : k = xs.length := by omega
      have hwv := HWV.out
      rw [hke] at hwv
      have HWL := Lib.hid hwv
      have hex : decide ((k : Int) < (xs.length : Int)) = false := decide_eq_false (by omega)
      clear hwv hke
      go_wp2
      go_ret2
      exact ⟨by rw [wcRes_0 HV.out H0.out HWL.out]; rfl, (by repeat (first | (with_reducible assumption) | (with_reducible exact Below.refl _ _) | (with_reducible refine Bel.alloc ?_ _) | (with_reducible refine Below.drew ?_) | (with_reducible refine Bel.drewN ?_ _) | (with_reducible refine Bel.setCell ?_ (by (try simp) <;> omega) _) | (with_reducible refine Bel.trans ?_ (by assumption))))⟩
end Go.Proofs.Ytlicpgmcnebpmaa
