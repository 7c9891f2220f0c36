/- Names: the program's IsName and the reference's l01Name return the same Lean function. -/
import Derived.Test.YtfbnckgfgaddkaaCom
namespace Go.Proofs.Ytfbnckgfgaddkaa
set_option linter.unusedSimpArgs false
set_option linter.unusedVariables false
open Go.RowKit
set_option maxHeartbeats 400000
def small (n : Int) : Bool := decide (97 ≤ n) && decide (n ≤ 122)
def digit (n : Int) : Bool := decide (48 ≤ n) && decide (n ≤ 57)
def nameAt (s : ByteArray) (i : Nat) : Bool := if h : i < s.size then small (s[i].toNat : Int) || digit (s[i].toNat : Int) else false
def nameAll (s : ByteArray) : Bool := (List.range s.size).all (nameAt s)
def isName (s : ByteArray) : Bool := if h : 0 < s.size then decide (s.size ≤ 10) && small (s[0].toNat : Int) && nameAll s else false
theorem nameAt_yes {s : ByteArray} {k : Nat} (h : k < s.size) (hs : (small (s[k].toNat : Int) || digit (s[k].toNat : Int)) = true) : nameAt s k = true := by rw [nameAt, dif_pos h]; exact hs
theorem nameAt_no {s : ByteArray} {k : Nat} (h : k < s.size) (hs : (small (s[k].toNat : Int) || digit (s[k].toNat : Int)) = false) : nameAt s k = false := by rw [nameAt, dif_pos h]; exact hs
theorem onlyNameBytes_any (s : ByteArray) (w : World) (hs : s.size ≤ 9223372036854775807) : Calls Try.prog 47 #[.string s] w fun e w' => e = .returned (.bool (nameAll s)) ∧ w = w' := by
  go_enter Try.func47, Try.ntmps47
  go_wp2_with fail
  go_loop [7] (fun i => ∃ k : Nat, k ≤ s.size ∧ i = .int .i64 k ∧ (List.range k).all (nameAt s) = true) (fun i => s.size - (intOf i).toNat)
  case atStart => exact ⟨0, by omega, rfl, rfl⟩
  case round =>
    obtain ⟨k, hk, rfl, hall⟩ := hrel
    have HA := Lib.hid hall
    clear hall
    by_cases hlt : k < s.size
    · go_wp2
      all_goals first
        | (go_round
           case rel => exact ⟨k + 1, by omega, by go_num, all_range_snoc HA.out (nameAt_yes hlt (by simp [small, digit, *] <;> omega))⟩
           case measure => simp [intOf]; omega)
        | (go_ret
           exact ⟨ret_bool (by rw [nameAll, all_range_no hlt (nameAt_no hlt (by simp [small, digit, *] <;> omega))]), rfl⟩)
    · obtain rfl : k = s.size := by omega
      go_wp2
      go_ret
      exact ⟨ret_bool (by rw [nameAll, HA.out]), rfl⟩
theorem IsName_any (s : ByteArray) (w : World) (hs : s.size ≤ 9223372036854775807) : Calls Try.prog 39 #[.string s] w fun e w' => e = .returned (.bool (isName s)) ∧ w = w' := by
  by_cases h0 : 0 < s.size
  · have h0' : (1 : Int) ≤ (s.size : Int) := by omega
    by_cases h10 : s.size ≤ 10
    · go_enter Try.func39, Try.ntmps39
      go_wp2_with (go_at_call 47; refine (onlyNameBytes_any _ _ hs).mono ?_; rintro e w' ⟨rfl, rfl⟩)
      all_goals
        go_ret
        exact ⟨ret_bool (by rw [isName, dif_pos h0, decide_eq_true h10]; simp [small, *] <;> omega), rfl⟩
    · go_enter Try.func39, Try.ntmps39
      go_wp2_with fail
      go_ret
      exact ⟨ret_bool (by rw [isName, dif_pos h0, decide_eq_false h10]; simp), rfl⟩
  · go_enter Try.func39, Try.ntmps39
    go_wp2_with fail
    go_ret
    exact ⟨ret_bool (by rw [isName, dif_neg h0]), rfl⟩
theorem l01Small_any (c : Int) (w : World) : Calls Try.prog 45 #[.int .u8 c] w fun e w' => e = .returned (.bool (small c)) ∧ w = w' := by
  go_enter Try.func45, Try.ntmps45
  go_wp2
  all_goals
    go_ret
    exact ⟨ret_bool (by simp [small, *] <;> omega), rfl⟩
theorem l01Digit_any (c : Int) (w : World) : Calls Try.prog 46 #[.int .u8 c] w fun e w' => e = .returned (.bool (digit c)) ∧ w = w' := by
  go_enter Try.func46, Try.ntmps46
  go_wp2
  all_goals
    go_ret
    exact ⟨ret_bool (by simp [digit, *] <;> omega), rfl⟩
theorem l01Name_any (s : ByteArray) (w : World) (hs : s.size ≤ 9223372036854775807) : Calls Try.prog 38 #[.string s] w fun e w' => e = .returned (.bool (isName s)) ∧ w = w' := by
  by_cases h0 : 0 < s.size
  · have h0' : (1 : Int) ≤ (s.size : Int) := by omega
    have hne : s.toList.isEmpty = false := str_ne h0
    have hne2 : (s.toList = []) = False := by simpa using hne
    by_cases h10 : s.size ≤ 10
    · cases hs0 : small (s[0].toNat : Int)
      · have HS := Lib.hid hs0
        clear hs0
        go_enter Try.func38, Try.ntmps38
        go_wp2_with (go_at_call 45; refine (Calls.boolIs HS.out (l01Small_any _ _)).mono ?_; rintro e w' ⟨rfl, rfl⟩)
        go_ret
        exact ⟨ret_bool (by rw [isName, dif_pos h0, HS.out]; simp), rfl⟩
      · have HS := Lib.hid hs0
        clear hs0
        go_enter Try.func38, Try.ntmps38
        go_wp2_with (go_at_call 45; refine (Calls.boolIs HS.out (l01Small_any _ _)).mono ?_; rintro e w' ⟨rfl, rfl⟩)
        go_loop [3] (fun i => ∃ k : Nat, k ≤ s.size ∧ i = .int .i64 k ∧ (List.range k).all (nameAt s) = true) (fun i => s.size - (intOf i).toNat)
        case atStart => exact ⟨0, by omega, rfl, rfl⟩
        case round =>
          obtain ⟨k, hk, rfl, hall⟩ := hrel
          have HA := Lib.hid hall
          clear hall
          by_cases hlt : k < s.size
          · cases hc : small (s[k].toNat : Int)
            · have HC := Lib.hid hc
              clear hc
              go_wp2_with fail
              refine (Calls.boolIs HC.out (l01Small_any _ _)).mono ?_
              rintro e w' ⟨rfl, rfl⟩
              cases hd : digit (s[k].toNat : Int)
              · have HD := Lib.hid hd
                clear hd
                go_wp2_with fail
                refine (Calls.boolIs HD.out (l01Digit_any _ _)).mono ?_
                rintro e w' ⟨rfl, rfl⟩
                go_wp2
                go_ret
                exact ⟨ret_bool (by rw [isName, dif_pos h0, nameAll, all_range_no hlt (nameAt_no hlt (by rw [HC.out, HD.out]; rfl)), Bool.and_false]), rfl⟩
              · have HD := Lib.hid hd
                clear hd
                go_wp2_with fail
                refine (Calls.boolIs HD.out (l01Digit_any _ _)).mono ?_
                rintro e w' ⟨rfl, rfl⟩
                go_wp2
                go_round
                case rel => exact ⟨k + 1, by omega, by go_num, all_range_snoc HA.out (nameAt_yes hlt (by rw [HC.out, HD.out]; rfl))⟩
                case measure => simp [intOf]; omega
            · have HC := Lib.hid hc
              clear hc
              go_wp2_with fail
              refine (Calls.boolIs HC.out (l01Small_any _ _)).mono ?_
              rintro e w' ⟨rfl, rfl⟩
              go_wp2
              go_round
              case rel => exact ⟨k + 1, by omega, by go_num, all_range_snoc HA.out (nameAt_yes hlt (by rw [HC.out]; rfl))⟩
              case measure => simp [intOf]; omega
          · obtain rfl : k = s.size := by omega
            go_wp2
            go_ret
            exact ⟨ret_bool (by rw [isName, dif_pos h0, HS.out, decide_eq_true h10, nameAll, HA.out]; rfl), rfl⟩
    · go_enter Try.func38, Try.ntmps38
      go_wp2_with fail
      go_ret
      exact ⟨ret_bool (by rw [isName, dif_pos h0, decide_eq_false h10]; simp), rfl⟩
  · have hne : s.toList.isEmpty = true := str_eq (by omega)
    have hne2 : s.toList = [] := by simpa using hne
    go_enter Try.func38, Try.ntmps38
    go_wp2_with fail
    go_ret
    exact ⟨ret_bool (by rw [isName, dif_neg h0]), rfl⟩
end Go.Proofs.Ytfbnckgfgaddkaa
