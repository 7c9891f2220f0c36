/- slices.ContainsFunc over integers, and the program's allWithin, a nil slice let in. -/
import Derived.Test.YtfbnckgfgaddkaaAllW
import Derived.Test.YtfbnckgfgaddkaaApp
namespace Go.Proofs.Ytfbnckgfgaddkaa
set_option linter.unusedSimpArgs false
set_option linter.unusedVariables false
open Go.RowKit
set_option maxHeartbeats 400000
theorem indexFuncA_allWA (xs : List Int) (D : Option Addr) (c : Nat) (v1 v2 : Value) (q : Int → Bool) (w : World) (A : ArgS intc 1 w D xs) (hn : xs.length ≤ 1048576)
    (HQ : Hid (∀ n, Calls Try.prog 49 #[.int .i64 n, v1, v2] w fun e w' => e = .returned (.bool (q n)) ∧ w = w')) :
    Calls Try.prog 50 #[.slice D xs.length c, .func (.func 49) #[] #[v1, v2]] w fun e w' => e = .returned (.int .i64 (idxOf q xs)) ∧ w = w' := by
  have HA := Lib.hid A
  clear A
  go_enter Try.func50, Try.ntmps50
  go_wp2_with fail
  go_loop [8] (fun i => ∃ k : Nat, k ≤ xs.length ∧ i = .int .i64 k ∧ ∀ j, j < k → hasAt q xs j = false) (fun i => xs.length - (intOf i).toNat)
  case atStart => exact ⟨0, by omega, rfl, fun j hj => absurd hj (Nat.not_lt_zero j)⟩
  case round =>
    obtain ⟨k, hk, rfl, hall⟩ := hrel
    have HL := Lib.hid hall
    clear hall
    by_cases hlt : k < xs.length
    · obtain ⟨b, o, rfl, a1⟩ := HA.out (by omega)
      have c0 := a1.2 k hlt 0 _ rfl
      rw [Nat.mul_one, Nat.add_zero] at c0
      clear a1 HA
      go_wp2_with fail
      cases hq : q xs[k]
      · have HP := Lib.hid hq
        clear hq
        refine (Calls.boolIs HP.out (HQ.out _)).mono ?_
        rintro e w' ⟨rfl, rfl⟩
        go_wp2
        go_round
        case rel => exact ⟨k + 1, by omega, by go_num, upto_snoc HL.out (by rw [hasAt_at hlt]; exact HP.out)⟩
        case measure => simp [intOf]; omega
      · have HP := Lib.hid hq
        clear hq
        refine (Calls.boolIs HP.out (HQ.out _)).mono ?_
        rintro e w' ⟨rfl, rfl⟩
        go_wp2
        go_ret
        exact ⟨ret_int (idxOf_some hlt HL.out (by rw [hasAt_at hlt]; exact HP.out)).symm, rfl⟩
    · obtain rfl : k = xs.length := by omega
      go_wp2
      go_ret
      exact ⟨ret_int (idxOf_none HL.out).symm, rfl⟩
theorem containsFuncA_allWA (xs : List Int) (D : Option Addr) (c : Nat) (v1 v2 : Value) (q : Int → Bool) (w : World) (A : ArgS intc 1 w D xs) (hn : xs.length ≤ 1048576)
    (HQ : Hid (∀ n, Calls Try.prog 49 #[.int .i64 n, v1, v2] w fun e w' => e = .returned (.bool (q n)) ∧ w = w')) :
    Calls Try.prog 48 #[.slice D xs.length c, .func (.func 49) #[] #[v1, v2]] w fun e w' => e = .returned (.bool (xs.any q)) ∧ w = w' := by
  have HA := Lib.hid A
  clear A
  go_enter Try.func48, Try.ntmps48
  go_wp2_with fail
  refine (indexFuncA_allWA xs D c v1 v2 q _ HA.out hn HQ).mono ?_
  rintro e w' ⟨rfl, rfl⟩
  go_wp2
  go_ret
  exact ⟨ret_bool (idxOf_any q xs), rfl⟩
theorem allWithin1A_any (n lo hi : Int) (g1 g2 : Nat) (w : World) (h1 : w.cell? ⟨g1, 0, none⟩ = some (.int .i64 lo)) (h2 : w.cell? ⟨g2, 0, none⟩ = some (.int .i64 hi)) :
    Calls Try.prog 49 #[.int .i64 n, .pointer (some ⟨g1, 0, none⟩), .pointer (some ⟨g2, 0, none⟩)] w fun e w' => e = .returned (.bool (!inr lo hi n)) ∧ w = w' := by
  go_enter Try.func49, Try.ntmps49
  go_wp2_with (go_at_call 20; refine (within_any _ _ _ _).mono ?_; rintro e w' ⟨rfl, rfl⟩)
  go_ret
  exact ⟨rfl, rfl⟩
theorem allWithinA_any (xs : List Int) (D : Option Addr) (c : Nat) (lo hi : Int) (w : World) (A : ArgS intc 1 w D xs) (hn : xs.length ≤ 1048576) :
    Calls Try.prog 40 #[.slice D xs.length c, .int .i64 lo, .int .i64 hi] w fun e w' => e = .returned (.bool (allIn lo hi xs)) ∧ Below w.heap.size w w' := by
  have HA := Lib.hid A
  clear A
  go_enter Try.func40, Try.ntmps40
  go_wp2_with fail
  refine calls_box_out2 ?_
  intro W hbw B1 B2
  refine (containsFuncA_allWA xs D c _ _ (fun n => !inr lo hi n) _ (HA.out.below hbw) hn (fun n => allWithin1A_any n lo hi _ _ W (B1.cell 0) (B2.cell 0))).mono ?_
  rintro e w' ⟨rfl, rfl⟩
  go_wp2
  go_ret
  exact ⟨ret_bool (allIn_any lo hi xs), hbw⟩
end Go.Proofs.Ytfbnckgfgaddkaa
