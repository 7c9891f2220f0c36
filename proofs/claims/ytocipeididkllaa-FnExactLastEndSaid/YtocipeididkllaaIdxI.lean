/- slices.Index and slices.Contains over integers; the reference's own search. -/
import Derived.Test.YtocipeididkllaaAllW
namespace Go.Proofs.Ytocipeididkllaa
set_option linter.unusedSimpArgs false
set_option linter.unusedVariables false
open Go.RowKit
set_option maxHeartbeats 400000
def hasIn (L : List Int) (v : Int) : Bool := L.any fun m => v == m
theorem Arr.take {α : Type} {cs : α → List Value} {sz : Nat} {w : World} {b : Nat} {xs : List α} (A : Arr cs sz w b xs) (k : Nat) : Arr cs sz w b (xs.take k) :=
  ⟨A.1, fun i hi j v hv => A.2 i (by simp at hi; omega) j v (by simpa using hv)⟩
theorem indexI_any (L : List Int) (b c n : Nat) (v : Int) (w : World) (A : Arr intc 1 w b L) (hL : L.length = n) (hn : n ≤ 1048576) :
    Calls Try.prog 72 #[.slice (some ⟨b, 0, none⟩) n c, .int .i64 v] w fun e w' => e = .returned (.int .i64 (idxOf (fun m => v == m) L)) ∧ w = w' := by
  subst hL
  have HA := Lib.hid A
  clear A
  go_enter Try.func72, Try.ntmps72
  go_wp2_with fail
  go_loop [8] (fun i => ∃ k : Nat, k ≤ L.length ∧ i = .int .i64 k ∧ ∀ j, j < k → hasAt (fun m => v == m) L j = false) (fun i => L.length - (intOf i).toNat)
  case atStart => exact ⟨0, by omega, rfl, fun j hj => absurd hj (Nat.not_lt_zero j)⟩
  case round =>
    obtain ⟨k, hk, rfl, hall⟩ := hrel
    have HL := Lib.hid hall
    clear hall
    by_cases hlt : k < L.length
    · have c0 := HA.out.get hlt 0 k rfl (by omega)
      cases hq : (v == L[k])
      · have HP := Lib.hid (show hasAt (fun m => v == m) L k = false by rw [hasAt_at hlt]; exact hq)
        go_wp2
        go_round
        case rel => exact ⟨k + 1, by omega, by go_num, upto_snoc HL.out HP.out⟩
        case measure => simp [intOf]; omega
      · have HP := Lib.hid (show hasAt (fun m => v == m) L k = true by rw [hasAt_at hlt]; exact hq)
        go_wp2
        go_ret
        exact ⟨ret_int (idxOf_some hlt HL.out HP.out).symm, rfl⟩
    · obtain rfl : k = L.length := by omega
      go_wp2
      go_ret
      exact ⟨ret_int (idxOf_none HL.out).symm, rfl⟩
theorem containsI_any (L : List Int) (b c n : Nat) (v : Int) (w : World) (A : Arr intc 1 w b L) (hL : L.length = n) (hn : n ≤ 1048576) :
    Calls Try.prog 66 #[.slice (some ⟨b, 0, none⟩) n c, .int .i64 v] w fun e w' => e = .returned (.bool (hasIn L v)) ∧ w = w' := by
  go_enter Try.func66, Try.ntmps66
  go_wp2_with fail
  refine (indexI_any L b c n v w A hL hn).mono ?_
  rintro e w' ⟨rfl, rfl⟩
  go_wp2
  go_ret
  exact ⟨ret_bool (idxOf_any _ L), rfl⟩
theorem l00Has_any (L : List Int) (b c n : Nat) (v : Int) (w : World) (A : Arr intc 1 w b L) (hL : L.length = n) (hn : n ≤ 1048576) :
    Calls Try.prog 75 #[.slice (some ⟨b, 0, none⟩) n c, .int .i64 v] w fun e w' => e = .returned (.bool (hasIn L v)) ∧ w = w' := by
  subst hL
  have HA := Lib.hid A
  clear A
  go_enter Try.func75, Try.ntmps75
  go_wp2_with fail
  go_loop [5] (fun i => ∃ k : Nat, k ≤ L.length ∧ i = .int .i64 k ∧ ∀ j, j < k → hasAt (fun m => v == m) L j = false) (fun i => L.length - (intOf i).toNat)
  case atStart => exact ⟨0, by omega, rfl, fun j hj => absurd hj (Nat.not_lt_zero j)⟩
  case round =>
    obtain ⟨k, hk, rfl, hall⟩ := hrel
    have HL := Lib.hid hall
    clear hall
    by_cases hlt : k < L.length
    · have c0 := HA.out.get hlt 0 k rfl (by omega)
      by_cases hq : L[k] = v
      · have HP := Lib.hid (show hasAt (fun m => v == m) L k = true by rw [hasAt_at hlt, hq]; simp)
        have hq2 : (L[k] == v) = true := by simpa using hq
        clear hq
        go_wp2
        go_ret
        exact ⟨ret_bool (by rw [hasIn, List.any_eq_true.2 ⟨L[k], List.getElem_mem hlt, by have := HP.out; rw [hasAt_at hlt] at this; exact this⟩]), rfl⟩
      · have HP := Lib.hid (show hasAt (fun m => v == m) L k = false by rw [hasAt_at hlt]; simpa using fun h => hq h.symm)
        have hq2 : (L[k] == v) = false := by simpa using hq
        clear hq
        go_wp2
        go_round
        case rel => exact ⟨k + 1, by omega, by go_num, upto_snoc HL.out HP.out⟩
        case measure => simp [intOf]; omega
    · obtain rfl : k = L.length := by omega
      go_wp2
      go_ret
      refine ⟨ret_bool ?_, rfl⟩
      have h1 : hasIn L v = false := by
        rw [hasIn, List.any_eq_false]
        intro m hm
        obtain ⟨j, hj, rfl⟩ := List.getElem_of_mem hm
        have := HL.out j hj
        rw [hasAt_at hj] at this
        simpa using this
      rw [h1]
end Go.Proofs.Ytocipeididkllaa
