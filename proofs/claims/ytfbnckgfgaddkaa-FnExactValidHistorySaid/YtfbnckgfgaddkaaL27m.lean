/- Chapter 27: memos. -/
import Derived.Test.YtfbnckgfgaddkaaNam
import Derived.Test.YtfbnckgfgaddkaaLst
namespace Go.Proofs.Ytfbnckgfgaddkaa
set_option linter.unusedSimpArgs false
set_option linter.unusedVariables false
open Go.RowKit
set_option maxHeartbeats 400000
set_option maxRecDepth 100000
def prt (n : Int) : Bool := decide (32 ≤ n) && decide (n ≤ 126)
def prtAt (s : ByteArray) (k : Nat) : Bool := if h : k < s.size then prt (s[k].toNat : Int) else true
theorem prtAt_yes {s : ByteArray} {k : Nat} (h : k < s.size) (hs : prt (s[k].toNat : Int) = true) : prtAt s k = true := by rw [prtAt, dif_pos h]; exact hs
theorem prtAt_no {s : ByteArray} {k : Nat} (h : k < s.size) (hs : prt (s[k].toNat : Int) = false) : prtAt s k = false := by rw [prtAt, dif_pos h]; exact hs
def prtAll (s : ByteArray) : Bool := (List.range s.size).all (prtAt s)
def memoOk (s : ByteArray) : Bool := decide (s.size ≤ 20) && prtAll s
theorem bytesWithin_any (s : ByteArray) (w : World) (hs : s.size ≤ 9223372036854775807) : Calls Try.prog 35 #[.string s, .int .u8 32, .int .u8 126] w fun e w' => e = .returned (.bool (prtAll s)) ∧ w = w' := by
  go_enter Try.func35, Try.ntmps35
  go_wp2_with fail
  go_loop [7, 10] (fun _ i => ∃ k : Nat, k ≤ s.size ∧ i = .int .i64 k ∧ (List.range k).all (prtAt s) = true) (fun _ i => s.size - (intOf i).toNat)
  case atStart => exact ⟨0, by omega, rfl, rfl⟩
  case round =>
    obtain ⟨k, hk, rfl, hall⟩ := hrel
    have HA := Lib.hid hall
    clear hall
    by_cases hlt : k < s.size
    · go_wp2
      all_goals first
        | (go_round
           case rel => exact ⟨k + 1, by omega, by go_num, all_range_snoc HA.out (prtAt_yes hlt (by simp [prt, *] <;> omega))⟩
           case measure => simp [intOf]; omega)
        | (go_ret
           exact ⟨ret_bool (by rw [prtAll, all_range_no hlt (prtAt_no hlt (by simp [prt, *] <;> omega))]), rfl⟩)
    · obtain rfl : k = s.size := by omega
      go_wp2
      go_ret
      exact ⟨ret_bool (by rw [prtAll, HA.out]), rfl⟩
theorem memoValid_any (s : ByteArray) (w : World) (hs : s.size ≤ 9223372036854775807) : Calls Try.prog 21 #[.string s] w fun e w' => e = .returned (.bool (memoOk s)) ∧ w = w' := by
  by_cases h20 : s.size ≤ 20
  · go_enter Try.func21, Try.ntmps21
    go_wp2_with (go_at_call 35; refine (bytesWithin_any _ _ hs).mono ?_; rintro e w' ⟨rfl, rfl⟩)
    go_ret
    exact ⟨ret_bool (by rw [memoOk, decide_eq_true h20, Bool.true_and]), rfl⟩
  · go_enter Try.func21, Try.ntmps21
    go_wp2_with fail
    go_ret
    exact ⟨ret_bool (by rw [memoOk, decide_eq_false h20, Bool.false_and]), rfl⟩
theorem l27Memo_any (s : ByteArray) (w : World) (hs : s.size ≤ 9223372036854775807) : Calls Try.prog 32 #[.string s] w fun e w' => e = .returned (.bool (memoOk s)) ∧ w = w' := by
  go_enter Try.func32, Try.ntmps32
  go_wp2_with fail
  go_loop [3] (fun i => ∃ k : Nat, k ≤ s.size ∧ i = .int .i64 k ∧ (List.range k).all (prtAt s) = true) (fun i => s.size - (intOf i).toNat)
  case atStart => exact ⟨0, by omega, rfl, rfl⟩
  case round =>
    obtain ⟨k, hk, rfl, hall⟩ := hrel
    have HA := Lib.hid hall
    clear hall
    by_cases hlt : k < s.size
    · go_wp2
      all_goals first
        | (go_round
           case rel => exact ⟨k + 1, by omega, by go_num, all_range_snoc HA.out (prtAt_yes hlt (by simp [prt, *] <;> omega))⟩
           case measure => simp [intOf]; omega)
        | (go_ret
           exact ⟨ret_bool (by rw [memoOk, prtAll, all_range_no hlt (prtAt_no hlt (by simp [prt, *] <;> omega)), Bool.and_false]), rfl⟩)
    · obtain rfl : k = s.size := by omega
      go_wp2
      go_ret
      exact ⟨ret_bool (by rw [memoOk, prtAll, HA.out, Bool.and_true]; simp; omega), rfl⟩
end Go.Proofs.Ytfbnckgfgaddkaa
