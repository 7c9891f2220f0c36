/- Chapter 12: valid parts, how a mass grows, where most is taken up. -/
import Derived.Test.YtcjalooaikfkbaaL12
import Derived.Test.YtcjalooaikfkbaaCom
import Derived.Test.YtcjalooaikfkbaaAllWA
namespace Go.Proofs.Ytcjalooaikfkbaa
set_option linter.unusedSimpArgs false
set_option linter.unusedVariables false
open Go.RowKit
set_option maxHeartbeats 400000
set_option maxRecDepth 100000
theorem validPart_any (x : SPart) (w : World) : Calls Try.prog 87 #[.agg #[.int .i64 x.Length, .int .i64 x.Width, .int .i64 x.Depth, .int .i64 x.Density]] w fun e w' => e = .returned (.bool (okPart x)) ∧ Below w.heap.size w w' := by
  go_enter Try.func87, Try.ntmps87
  go_wp2_with (go_at_call 43; refine (within_any _ _ _ _).mono ?_; rintro e w' ⟨rfl, rfl⟩)
  all_goals
    go_ret
    exact ⟨ret_bool (by simp [okPart, *]), (by repeat (first | (with_reducible assumption) | (with_reducible exact Below.refl _ _) | (with_reducible refine Bel.alloc ?_ _) | (with_reducible refine Below.drew ?_) | (with_reducible refine Bel.drewN ?_ _) | (with_reducible refine Bel.setCell ?_ (by (try simp) <;> omega) _) | (with_reducible refine Bel.trans ?_ (by assumption))))⟩
def badPart (x : SPart) : Bool := !okPart x
theorem validParts1_any (x : SPart) (w : World) : Calls Try.prog 86 #[.agg #[.int .i64 x.Length, .int .i64 x.Width, .int .i64 x.Depth, .int .i64 x.Density]] w fun e w' => e = .returned (.bool (badPart x)) ∧ Below w.heap.size w w' := by
  go_enter Try.func86, Try.ntmps86
  go_wp2_with fail
  refine calls_box_out ?_
  intro W hbw B
  refine (validPart_any x _).mono ?_
  rintro e w' ⟨rfl, hb⟩
  go_wp2
  go_ret
  exact ⟨rfl, Bel.trans hbw hb⟩
theorem indexParts_any (xs : List SPart) (b c : Nat) (w : World) (A : Arr SPart.cells 4 w b xs) (hn : xs.length ≤ 1048576) :
    Calls Try.prog 103 #[.slice (some ⟨b, 0, none⟩) xs.length c, .func (.func 86) #[] #[]] w fun e w' => e = .returned (.int .i64 (idxG badPart xs)) ∧ Below w.heap.size w w' := by
  have HA := Lib.hid A
  clear A
  go_enter Try.func103, Try.ntmps103
  go_wp2_with fail
  go_loopw [8] (fun i wr => ∃ k : Nat, k ≤ xs.length ∧ i = .int .i64 k ∧ (∀ j, j < k → hasG badPart xs j = false) ∧ Below w.heap.size w wr) (fun i wr => xs.length - (intOf i).toNat)
  case atStart => exact ⟨0, by omega, rfl, fun j hj => absurd hj (Nat.not_lt_zero j), Below.refl _ _⟩
  case round =>
    obtain ⟨k, hk, rfl, hall, hbel⟩ := hrel
    have HL := Lib.hid hall
    clear hall
    by_cases hlt : k < xs.length
    · obtain ⟨e0, e1, e2, e3⟩ := SPart.elem (HA.out.below hbel) hlt
      go_wp2_with fail
      cases hq : badPart xs[k]
      · have HP := Lib.hid hq
        clear hq
        refine (Calls.boolIs HP.out (validParts1_any _ _)).mono ?_
        rintro e w' ⟨rfl, hb2⟩
        go_wp2
        go_roundw
        case rel => exact ⟨k + 1, by omega, by go_num, upto_snoc HL.out (by rw [hasG_at hlt]; exact HP.out), Bel.trans hbel hb2⟩
        case measure => simp [intOf]; omega
      · have HP := Lib.hid hq
        clear hq
        refine (Calls.boolIs HP.out (validParts1_any _ _)).mono ?_
        rintro e w' ⟨rfl, hb2⟩
        go_wp2
        go_ret
        exact ⟨ret_int (idxG_some hlt HL.out (by rw [hasG_at hlt]; exact HP.out)).symm, Bel.trans hbel hb2⟩
    · obtain rfl : k = xs.length := by omega
      go_wp2
      go_ret
      exact ⟨ret_int (idxG_none HL.out).symm, hbel⟩
theorem containsParts_any (xs : List SPart) (b c : Nat) (w : World) (A : Arr SPart.cells 4 w b xs) (hn : xs.length ≤ 1048576) :
    Calls Try.prog 85 #[.slice (some ⟨b, 0, none⟩) xs.length c, .func (.func 86) #[] #[]] w fun e w' => e = .returned (.bool (xs.any badPart)) ∧ Below w.heap.size w w' := by
  have HA := Lib.hid A
  clear A
  go_enter Try.func85, Try.ntmps85
  go_wp2_with fail
  refine (indexParts_any xs b c _ HA.out hn).mono ?_
  rintro e w' ⟨rfl, hb⟩
  go_wp2
  go_ret
  exact ⟨ret_bool (idxG_any badPart xs), hb⟩
theorem vlPart_bad (xs : List SPart) : (decide (xs.length ≤ 24) && !(xs.any badPart)) = vlPart xs := by
  have h : xs.any badPart = !xs.all okPart := by
    induction xs with
    | nil => rfl
    | cons x r ih => simp only [List.any_cons, List.all_cons, ih, badPart]; cases okPart x <;> simp
  rw [vlPart, h, Bool.not_not, Bool.and_comm]
theorem ValidParts_any (xs : List SPart) (b c : Nat) (w : World) (A : Arr SPart.cells 4 w b xs) (hn : xs.length ≤ 1048576) :
    Calls Try.prog 54 #[.slice (some ⟨b, 0, none⟩) xs.length c] w fun e w' => e = .returned (.bool (vlPart xs)) ∧ Below w.heap.size w w' := by
  have HA := Lib.hid A
  have he := vlPart_bad xs
  clear A
  by_cases h24 : xs.length ≤ 24
  · rw [decide_eq_true h24, Bool.true_and] at he
    have HE := Lib.hid he
    clear he
    go_enter Try.func54, Try.ntmps54
    go_wp2_with (go_at_call 85; refine (containsParts_any xs b c _ HA.out hn).mono ?_; rintro e w1 ⟨rfl, hb1⟩)
    go_ret
    exact ⟨ret_bool HE.out, hb1⟩
  · rw [decide_eq_false h24, Bool.false_and] at he
    have HE := Lib.hid he
    clear he
    go_enter Try.func54, Try.ntmps54
    go_wp2
    go_ret
    exact ⟨ret_bool HE.out, Below.refl _ _⟩
theorem tonnesOk_any (n : Int) (w : World) : Calls Try.prog 55 #[.int .i64 n] w fun e w' => e = .returned (.bool (inr 0 100000000 n)) ∧ w = w' := by
  go_enter Try.func55, Try.ntmps55
  go_wp2_with (go_at_call 43; refine (within_any _ _ _ _).mono ?_; rintro e w' ⟨rfl, rfl⟩)
  go_ret
  exact ⟨rfl, rfl⟩
theorem growthCode_any (xs : List SPart) (b c : Nat) (t s : Int) (w : World) (A : Arr SPart.cells 4 w b xs) (hn : xs.length ≤ 1048576) :
    Calls Try.prog 51 #[.slice (some ⟨b, 0, none⟩) xs.length c, .int .i64 t, .int .i64 s] w fun e w' => e = .returned (.int .i64 (gcode xs t s)) ∧ Below w.heap.size w w' := by
  have HA := Lib.hid A
  clear A
  go_enter Try.func51, Try.ntmps51
  go_wp2_with (first | (go_at_call 54; refine (ValidParts_any xs b c _ HA.out hn).mono ?_; rintro e w1 ⟨rfl, hb1⟩) | (go_at_call 55; refine (tonnesOk_any _ _).mono ?_; rintro e w' ⟨rfl, rfl⟩) | (go_at_call 43; refine (within_any _ _ _ _).mono ?_; rintro e w' ⟨rfl, rfl⟩))
  all_goals
    go_ret
    exact ⟨ret_int (by (try simp only [Bool.not_eq_true', Bool.not_eq_false', Bool.not_eq_true] at *); simp [gcode, *]), (by repeat (first | (with_reducible assumption) | (with_reducible exact Below.refl _ _) | (with_reducible refine Bel.alloc ?_ _) | (with_reducible refine Below.drew ?_) | (with_reducible refine Bel.drewN ?_ _) | (with_reducible refine Bel.setCell ?_ (by (try simp) <;> omega) _) | (with_reducible refine Bel.trans ?_ (by assumption))))⟩
end Go.Proofs.Ytcjalooaikfkbaa
