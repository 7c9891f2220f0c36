/- Small functions of the laws package: what they answer. No condition. -/
import Derived.Test.YtcjalooaikfkbaaSrcR
import Derived.Test.YtcjalooaikfkbaaLst
namespace Go.Proofs.Ytcjalooaikfkbaa
set_option linter.unusedSimpArgs false
set_option linter.unusedVariables false
open Go.RowKit
set_option maxHeartbeats 400000
theorem b10LongS_any (A : Option Addr) (n c : Nat) (w : World) : Calls Try.prog 7 #[.slice A n c] w fun e w' => e = .returned (.bool (decide ((1048576 : Int) < (n : Int)))) ∧ w = w' := by
  go_enter Try.func7, Try.ntmps7
  go_wp2
  go_ret
  exact ⟨rfl, rfl⟩
theorem b10Has_any {D : Option Addr} {c : Nat} {L : List Int} {w : World} (A : ArgS intc 1 w D L) (x : Int) (hn : L.length ≤ 1048576) :
    Calls Try.prog 28 #[.slice D L.length c, .int .i64 x] w fun e w' => e = .returned (.bool (decide (x ∈ L))) ∧ Below w.heap.size w w' := by
  have HA := Lib.hid A
  clear A
  go_enter Try.func28, Try.ntmps28
  go_wp2_with fail
  go_loopw [5] (fun i wr => ∃ k : Nat, k ≤ L.length ∧ i = .int .i64 k ∧ Below w.heap.size w wr ∧ Hid (∀ j (h : j < L.length), j < k → L[j] ≠ x)) (fun i wr => L.length - (intOf i).toNat)
  case atStart => exact ⟨0, by omega, rfl, Below.refl _ _, Lib.hid fun j _ h => absurd h (Nat.not_lt_zero j)⟩
  case round =>
    obtain ⟨k, hk, rfl, hbel, HN⟩ := hrel
    by_cases hlt : k < L.length
    · obtain ⟨bb, oo, rfl, hc⟩ := (HA.out.below hbel) (by omega)
      have c1 : wr.cell? ⟨bb, oo + k, none⟩ = some (.int .i64 L[k]) := by
        have := hc.2 k hlt 0 (.int .i64 L[k]) rfl
        simpa using this
      clear hc
      cases he : L[k] == x
      · go_wp2
        go_roundw
        case rel => exact ⟨k + 1, by omega, by go_num, hbel, Lib.hid fun j hj hjk => by
          rcases Nat.lt_or_ge j k with h | h
          · exact HN.out j hj h
          · obtain rfl : j = k := by omega
            exact beq_eq_false_iff_ne.mp he⟩
        case measure => simp [intOf]; omega
      · have hm : x ∈ L := by rw [← beq_iff_eq.mp he]; exact List.getElem_mem hlt
        have HM := Lib.hid hm
        clear hm
        go_wp2
        go_ret
        exact ⟨ret_bool (by rw [decide_eq_true HM.out]), hbel⟩
    · obtain rfl : k = L.length := by omega
      go_wp2
      go_ret
      refine ⟨ret_bool ?_, hbel⟩
      rw [decide_eq_false]
      intro hm
      obtain ⟨j, hj, e⟩ := List.getElem_of_mem hm
      exact HN.out j hj hj e
theorem b10Sum_any {D : Option Addr} {c : Nat} {L : List Int} {w : World} (A : ArgS intc 1 w D L) (hn : L.length ≤ 1000) (hb : ∀ x ∈ L, 0 ≤ x ∧ x ≤ 1000) :
    Calls Try.prog 23 #[.slice D L.length c] w fun e w' => e = .returned (.int .i64 (sumL id L L.length)) ∧ Below w.heap.size w w' := by
  have HA := Lib.hid A
  have HB := Lib.hid hb
  clear A hb
  go_enter Try.func23, Try.ntmps23
  go_wp2_with fail
  go_loopw [3, 4] (fun s i wr => ∃ (k : Nat) (m : Int), k ≤ L.length ∧ i = .int .i64 k ∧ s = .int .i64 m ∧ sumL id L k = m ∧ Below w.heap.size w wr) (fun _ i wr => L.length - (intOf i).toNat)
  case atStart => exact ⟨0, 0, by omega, rfl, rfl, rfl, Below.refl _ _⟩
  case round =>
    obtain ⟨k, m, hk, rfl, rfl, hm, hbel⟩ := hrel
    have hbd := sumL_bd (f := id) (xs := L) (M := 1000) (by omega) (fun i hi => HB.out _ (List.getElem_mem hi)) k
    rw [hm] at hbd
    have HM := Lib.hid hm
    clear hm
    by_cases hlt : k < L.length
    · obtain ⟨bb, oo, rfl, hc⟩ := (HA.out.below hbel) (by omega)
      have c1 : wr.cell? ⟨bb, oo + k, none⟩ = some (.int .i64 L[k]) := by
        have := hc.2 k hlt 0 (.int .i64 L[k]) rfl
        simpa using this
      have hx := HB.out _ (List.getElem_mem hlt)
      have hs := sumL_at (f := id) hlt
      rw [HM.out] at hs
      have HS := Lib.hid hs
      clear hc hs
      go_wp2
      go_roundw
      case rel => exact ⟨k + 1, m + L[k], by omega, by go_num, by go_num, HS.out, hbel⟩
      case measure => simp [intOf]; omega
    · obtain rfl : k = L.length := by omega
      go_wp2
      go_ret
      exact ⟨ret_int (by rw [HM.out]), hbel⟩
def absI (n : Int) : Int := if n < 0 then -n else n
theorem b10Abs_any (n : Int) (w : World) (h0 : -1000000000000 ≤ n) (h1 : n ≤ 1000000000000) : Calls Try.prog 24 #[.int .i64 n] w fun e w' => e = .returned (.int .i64 (absI n)) ∧ w = w' := by
  by_cases h : n < 0
  · have E : Hid (absI n = -n) := Lib.hid (if_pos h)
    go_enter Try.func24, Try.ntmps24
    go_wp2
    go_ret
    exact ⟨ret_int E.out.symm, rfl⟩
  · have E : Hid (absI n = n) := Lib.hid (if_neg h)
    go_enter Try.func24, Try.ntmps24
    go_wp2
    go_ret
    exact ⟨ret_int E.out.symm, rfl⟩
end Go.Proofs.Ytcjalooaikfkbaa
