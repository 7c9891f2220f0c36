/- The laws package's helpers for slices of integers (comparison, marks, copies) do what they say. No condition beyond the theorems' own. -/
import Derived.Test.YtocipeididkllaaChecked
import Derived.Test.YtocipeididkllaaApp
namespace Go.Proofs.Ytocipeididkllaa
set_option linter.unusedSimpArgs false
set_option linter.unusedVariables false
open Go.RowKit
set_option maxHeartbeats 400000
theorem argI {w : World} {b o k : Nat} {xs : List Int} (A : ArgC intc 1 w b o xs) (hk : k < xs.length) : w.cell? ⟨b, o + k, none⟩ = some (.int .i64 xs[k]) := by
  have := A.2 k hk 0 _ rfl
  rwa [Nat.mul_one, Nat.add_zero] at this
theorem toInt64S_any (A : Option Addr) (c : Nat) (xs : List Int) (w : World) (h : ArgS intc 1 w A xs) (hn : xs.length ≤ 1048576) :
    Calls Try.prog 11 #[.slice A xs.length c] w fun e w' => e = .returned (.slice (some ⟨w.heap.size, 0, none⟩) xs.length xs.length) ∧ Below w.heap.size w w' ∧ Own intc 1 2 w' w.heap.size xs := by
  have H := Lib.hid h
  clear h
  have hmk := mk_slice (P := Try.prog) 23 2 (.int .i64 0) 1 8 (by kernel_rfl) (by kernel_rfl) (by omega) xs.length hn
  go_enter Try.func11, Try.ntmps11
  go_wp2_with fail
  go_loopw [4] (fun i wr => ∃ k : Nat, k ≤ xs.length ∧ i = .int .i64 k ∧ Below w.heap.size w wr ∧ Part intc 1 2 wr w.heap.size xs k) (fun i wr => xs.length - (intOf i).toNat)
  case atStart =>
    have hp := Part.made (cs := intc) (sz := 1) (t := 2) (Value.int .i64 0).cells w xs
    rw [Nat.mul_one] at hp
    first | exact ⟨0, by omega, rfl, (by repeat (first | (with_reducible assumption) | (with_reducible exact Below.refl _ _) | (with_reducible refine Bel.alloc ?_ _) | (with_reducible refine Below.drew ?_) | (with_reducible refine Bel.drewN ?_ _) | (with_reducible refine Bel.setCell ?_ (by (try simp) <;> omega) _) | (with_reducible refine Bel.trans ?_ (by assumption)))), hp⟩ | exact ⟨0, by omega, rfl, (by repeat (first | (with_reducible assumption) | (with_reducible exact Below.refl _ _) | (with_reducible refine Bel.alloc ?_ _) | (with_reducible refine Below.drew ?_) | (with_reducible refine Bel.drewN ?_ _) | (with_reducible refine Bel.setCell ?_ (by (try simp) <;> omega) _) | (with_reducible refine Bel.trans ?_ (by assumption)))), Part.made _ _ _⟩
  case round =>
    obtain ⟨k, hk, rfl, hbel, hpart⟩ := hrel
    by_cases hlt : k < xs.length
    · obtain ⟨b, o, rfl, hc⟩ := H.out (by omega)
      have hb := hc.1
      have e0 := argI (hc.below hbel hb) hlt
      obtain ⟨u0_, r0, z0⟩ := hpart.room (i := k) (by omega)
      have HP := Lib.hid hpart
      have hpl := hpart.lt
      clear hpart hc H
      go_wp2
      go_roundw
      case rel =>
        have hs := HP.out.step hlt (fun _ => rfl)
        rw [Nat.mul_one] at hs
        exact ⟨k + 1, by omega, by go_num, Bel.setAll (Nat.le_refl _) (intc xs[k]) k hbel, hs⟩
      case measure => simp [intOf]; omega
    · obtain rfl : k = xs.length := by omega
      have HP := Lib.hid hpart
      clear hpart
      go_wp2
      go_ret
      exact ⟨rfl, hbel, HP.out.own (Nat.le_refl _)⟩
theorem eqInt64S_any (A1 A2 : Option Addr) (c1 c2 : Nat) (xs : List Int) (w : World) (S1 : ArgS intc 1 w A1 xs) (S2 : ArgS intc 1 w A2 xs) (hn : xs.length ≤ 1048578) :
    Calls Try.prog 14 #[.slice A1 xs.length c1, .slice A2 xs.length c2] w fun e w' => e = .returned (.bool true) ∧ Below w.heap.size w w' := by
  have H1 := Lib.hid S1
  have H2 := Lib.hid S2
  clear S1 S2
  go_enter Try.func14, Try.ntmps14
  go_wp2_with fail
  go_loopw [5] (fun i wr => ∃ k : Nat, k ≤ xs.length ∧ i = .int .i64 k ∧ Below w.heap.size w wr) (fun i wr => xs.length - (intOf i).toNat)
  case atStart => exact ⟨0, by omega, rfl, Below.refl _ _⟩
  case round =>
    obtain ⟨k, hk, rfl, hbel⟩ := hrel
    by_cases hlt : k < xs.length
    · obtain ⟨b1, o1, rfl, a1⟩ := H1.out (by omega)
      obtain ⟨b2, o2, rfl, a2⟩ := H2.out (by omega)
      have e1 := argI (a1.below hbel a1.1) hlt
      have e2 := argI (a2.below hbel a2.1) hlt
      have hs := hbel.size
      have q1 := Past.cell e1 (Nat.lt_of_lt_of_le a1.1 hs)
      have q2 := Past.cell e2 (Nat.lt_of_lt_of_le a2.1 hs)
      clear a1 a2 H1 H2 e1 e2
      go_wp2_with fail
      refine wp_region_past (by kernel_rfl) (by kernel_rfl) ?_
      repeat (go_big_quiet_step (fail))
      refine wpQuiet_nil ?_
      intro W1 hw'
      obtain ⟨⟨W_, hb1⟩, hw''⟩ := hw'
      subst hw''
      go_wp2
      go_roundw
      case rel => exact ⟨k + 1, by omega, by go_num, Bel.trans hbel hb1⟩
      case measure => simp [intOf]; omega
    · obtain rfl : k = xs.length := by omega
      go_wp2
      go_ret
      exact ⟨rfl, hbel⟩
end Go.Proofs.Ytocipeididkllaa
