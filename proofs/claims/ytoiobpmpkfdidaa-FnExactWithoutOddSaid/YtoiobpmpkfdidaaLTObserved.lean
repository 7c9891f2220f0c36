/- The helpers of the laws package for the type Observed (sizes, copies, comparisons) do what they say. No condition beyond the theorems own. -/
import Derived.Test.YtoiobpmpkfdidaaChecked
import Derived.Test.YtoiobpmpkfdidaaApp
namespace Go.Proofs.Ytoiobpmpkfdidaa
set_option linter.unusedSimpArgs false
set_option linter.unusedVariables false
open Go.RowKit
set_option maxHeartbeats 400000
theorem toObserved_any (x : SObserved) (w : World) : Calls Try.prog 28 #[.agg #[.int .i64 x.Hour, .int .i64 x.Snow, .int .i64 x.Degrees, .int .i64 x.Wind]] w fun e w' => e = .returned (.agg #[.int .i64 x.Hour, .int .i64 x.Snow, .int .i64 x.Degrees, .int .i64 x.Wind]) ∧ Below w.heap.size w w' := by
  go_enter Try.func28, Try.ntmps28
  go_wp2
  exact bodyPost_ret (v := .agg #[.int .i64 x.Hour, .int .i64 x.Snow, .int .i64 x.Degrees, .int .i64 x.Wind]) (by simp [results, Try.results28, go_sem]) rfl ⟨rfl, (by repeat (first | (with_reducible assumption) | (with_reducible exact Below.refl _ _) | (with_reducible refine Bel.alloc ?_ _) | (with_reducible refine Below.drew ?_) | (with_reducible refine Bel.drewN ?_ _) | (with_reducible refine Bel.setCell ?_ (by (try simp) <;> omega) _) | (with_reducible refine Bel.trans ?_ (by assumption))))⟩
theorem toObservedS_any (A : Option Addr) (c : Nat) (xs : List SObserved) (w : World) (h : ArgS SObserved.cells 4 w A xs) (hn : xs.length ≤ 1048576) :
    Calls Try.prog 10 #[.slice A xs.length c] w fun e w' => e = .returned (.slice (some ⟨w.heap.size, 0, none⟩) xs.length xs.length) ∧ Below w.heap.size w w' ∧ Own SObserved.cells 4 44 w' w.heap.size xs := by
  have H := Lib.hid h
  clear h
  have hmk := mk_slice (P := Try.prog) 26 44 (.agg #[.int .i64 0, .int .i64 0, .int .i64 0, .int .i64 0]) 4 32 (by kernel_rfl) (by kernel_rfl) (by omega) xs.length hn
  go_enter Try.func10, Try.ntmps10
  go_wp2_with fail
  go_loopw [4] (fun i wr => ∃ k : Nat, k ≤ xs.length ∧ i = .int .i64 k ∧ Below w.heap.size w wr ∧ Part SObserved.cells 4 44 wr w.heap.size xs k) (fun i wr => xs.length - (intOf i).toNat)
  case atStart => exact ⟨0, by omega, rfl, (by repeat (first | (with_reducible assumption) | (with_reducible exact Below.refl _ _) | (with_reducible refine Bel.alloc ?_ _) | (with_reducible refine Below.drew ?_) | (with_reducible refine Bel.drewN ?_ _) | (with_reducible refine Bel.setCell ?_ (by (try simp) <;> omega) _) | (with_reducible refine Bel.trans ?_ (by assumption)))), Part.made _ _ _⟩
  case round =>
    obtain ⟨k, hk, rfl, hbel, hpart⟩ := hrel
    by_cases hlt : k < xs.length
    · obtain ⟨b, o, rfl, hc⟩ := H.out (by omega)
      have hb := hc.1
      obtain ⟨e0, e1, e2, e3⟩ := SObserved.arg (hc.below hbel hb) hlt
      clear hc H
      obtain ⟨u0_, r0, z0⟩ := hpart.room (i := k * 4) (by omega)
      obtain ⟨u1_, r1, z1⟩ := hpart.room (i := k * 4 + 1) (by omega)
      obtain ⟨u2_, r2, z2⟩ := hpart.room (i := k * 4 + 2) (by omega)
      obtain ⟨u3_, r3, z3⟩ := hpart.room (i := k * 4 + 3) (by omega)
      have HP := Lib.hid hpart
      have hpl := hpart.lt
      clear hpart
      go_wp2_with (go_at_call 28; refine (toObserved_any xs[k] _).mono ?_; rintro e w1 ⟨rfl, hb1⟩; have hbt := Bel.trans hbel hb1; have r0 := (hb1.cell (p := ⟨w.heap.size, k * 4, none⟩) hpl).trans r0; have z0 := (hb1.frozen (p := ⟨w.heap.size, k * 4, none⟩) hpl).trans z0; have r1 := (hb1.cell (p := ⟨w.heap.size, k * 4 + 1, none⟩) hpl).trans r1; have z1 := (hb1.frozen (p := ⟨w.heap.size, k * 4 + 1, none⟩) hpl).trans z1; have r2 := (hb1.cell (p := ⟨w.heap.size, k * 4 + 2, none⟩) hpl).trans r2; have z2 := (hb1.frozen (p := ⟨w.heap.size, k * 4 + 2, none⟩) hpl).trans z2; have r3 := (hb1.cell (p := ⟨w.heap.size, k * 4 + 3, none⟩) hpl).trans r3; have z3 := (hb1.frozen (p := ⟨w.heap.size, k * 4 + 3, none⟩) hpl).trans z3)
      go_roundw
      case rel => exact ⟨k + 1, by omega, by go_num, Bel.setAll (Nat.le_refl _) (SObserved.cells xs[k]) (k * 4) hbt, (HP.out.upto hb1 hpl).step hlt (fun _ => rfl)⟩
      case measure => simp [intOf]; omega
    · obtain rfl : k = xs.length := by omega
      have HP := Lib.hid hpart
      clear hpart
      go_wp2
      go_ret
      exact ⟨rfl, hbel, HP.out.own (Nat.le_refl _)⟩
theorem szObservedS_any (A : Option Addr) (n c : Nat) (left : Int) (w : World) (hn : n ≤ 9223372036854775807) (h0 : 0 ≤ left) (h1 : left ≤ 1048576) :
    Calls Try.prog 8 #[.slice A n c, .int .i64 left] w fun e w' => (∃ r : Int, e = .returned (.int .i64 r) ∧ -1 ≤ r ∧ r ≤ left ∧ (0 ≤ r → (n : Int) ≤ left)) ∧ w = w' := by
  go_enter Try.func8, Try.ntmps8
  go_wp2
  all_goals
    go_ret
    exact ⟨⟨_, rfl, by omega, by omega, by omega⟩, rfl⟩
theorem markObservedS_any (g c : Nat) (xs : List SObserved) (k : Int) (w : World) (O : Own SObserved.cells 4 44 w g xs) (hn : xs.length ≤ 1048576) (hk0 : 0 ≤ k) (hk1 : k ≤ 1000000000) :
    Calls Try.prog 15 #[.slice (some ⟨g, 0, none⟩) xs.length c, .int .i64 k] w fun e w' => e = .returned (.int .i64 (k + 4 * xs.length)) ∧ w.grownBy w' (some g) := by
  obtain ⟨arr, hh, hsz, _⟩ := O
  have HH : Hid (Box 44 w g arr) := hh
  clear hh
  go_enter Try.func15, Try.ntmps15
  go_wp2_with fail
  go_loopw [1, 5] (fun kk i wr => ∃ (j : Nat) (cur : Array Value), j ≤ xs.length ∧ i = .int .i64 j ∧ kk = .int .i64 (k + 4 * j) ∧ w.grownBy wr (some g) ∧ Box 44 wr g cur ∧ cur.size = xs.length * 4) (fun _ i wr => xs.length - (intOf i).toNat)
  case atStart => exact ⟨0, arr, by omega, rfl, by simp, World.grownBy.refl _ _, HH.out, hsz⟩
  case round =>
    obtain ⟨j, cur, hj, rfl, rfl, hgr, B, hcs⟩ := hrel
    have HG := Lib.hid hgr
    clear hgr
    by_cases hlt : j < xs.length
    · have hc0 : j * 4 < cur.size := by omega
      have c0 : wr.cell? ⟨g, j * 4, none⟩ = some cur[j * 4] := (B.cell (j * 4)).trans (Array.getElem?_eq_getElem hc0)
      have z0 : wr.frozen? ⟨g, j * 4, none⟩ = false := B.free (j * 4)
      have hc1 : j * 4 + 1 < cur.size := by omega
      have c1 : wr.cell? ⟨g, j * 4 + 1, none⟩ = some cur[j * 4 + 1] := (B.cell (j * 4 + 1)).trans (Array.getElem?_eq_getElem hc1)
      have z1 : wr.frozen? ⟨g, j * 4 + 1, none⟩ = false := B.free (j * 4 + 1)
      have hc2 : j * 4 + 2 < cur.size := by omega
      have c2 : wr.cell? ⟨g, j * 4 + 2, none⟩ = some cur[j * 4 + 2] := (B.cell (j * 4 + 2)).trans (Array.getElem?_eq_getElem hc2)
      have z2 : wr.frozen? ⟨g, j * 4 + 2, none⟩ = false := B.free (j * 4 + 2)
      have hc3 : j * 4 + 3 < cur.size := by omega
      have c3 : wr.cell? ⟨g, j * 4 + 3, none⟩ = some cur[j * 4 + 3] := (B.cell (j * 4 + 3)).trans (Array.getElem?_eq_getElem hc3)
      have z3 : wr.frozen? ⟨g, j * 4 + 3, none⟩ = false := B.free (j * 4 + 3)
      have HB := Lib.hid B
      have HS := Lib.hid hcs
      clear B hcs
      go_wp2
      go_roundw
      case rel => exact ⟨j + 1, _, by omega, by go_num, by go_num, (only_set (only_set (only_set (only_set HG.out rfl _) rfl _) rfl _) rfl _), ((((HB.out.set (j * 4) _).set (j * 4 + 1) _).set (j * 4 + 2) _).set (j * 4 + 3) _), by simpa using HS.out⟩
      case measure => simp [intOf]; omega
    · obtain rfl : j = xs.length := by omega
      go_wp2
      go_ret
      exact ⟨rfl, HG.out⟩
theorem eqObserved_any (x : SObserved) (w : World) : Calls Try.prog 33 #[.agg #[.int .i64 x.Hour, .int .i64 x.Snow, .int .i64 x.Degrees, .int .i64 x.Wind], .agg #[.int .i64 x.Hour, .int .i64 x.Snow, .int .i64 x.Degrees, .int .i64 x.Wind]] w fun e w' => e = .returned (.bool true) ∧ Below w.heap.size w w' := by
  go_enter Try.func33, Try.ntmps33
  go_wp2
  go_ret
  exact ⟨rfl, (by repeat (first | (with_reducible assumption) | (with_reducible exact Below.refl _ _) | (with_reducible refine Bel.alloc ?_ _) | (with_reducible refine Below.drew ?_) | (with_reducible refine Bel.drewN ?_ _) | (with_reducible refine Bel.setCell ?_ (by (try simp) <;> omega) _) | (with_reducible refine Bel.trans ?_ (by assumption))))⟩
theorem eqObservedS_any (b1 c1 b2 c2 : Nat) (xs : List SObserved) (w : World) (A1 : Arr SObserved.cells 4 w b1 xs) (A2 : Arr SObserved.cells 4 w b2 xs) (hn : xs.length ≤ 1048576) :
    Calls Try.prog 12 #[.slice (some ⟨b1, 0, none⟩) xs.length c1, .slice (some ⟨b2, 0, none⟩) xs.length c2] w fun e w' => e = .returned (.bool true) ∧ Below w.heap.size w w' := by
  go_enter Try.func12, Try.ntmps12
  go_wp2_with fail
  go_loopw [5] (fun i wr => ∃ k : Nat, k ≤ xs.length ∧ i = .int .i64 k ∧ Below w.heap.size w wr) (fun i wr => xs.length - (intOf i).toNat)
  case atStart => exact ⟨0, by omega, rfl, (by repeat (first | (with_reducible assumption) | (with_reducible exact Below.refl _ _) | (with_reducible refine Bel.alloc ?_ _) | (with_reducible refine Below.drew ?_) | (with_reducible refine Bel.drewN ?_ _) | (with_reducible refine Bel.setCell ?_ (by (try simp) <;> omega) _) | (with_reducible refine Bel.trans ?_ (by assumption))))⟩
  case round =>
    obtain ⟨k, hk, rfl, hbel⟩ := hrel
    by_cases hlt : k < xs.length
    · obtain ⟨p0, p1, p2, p3⟩ := SObserved.elems (A1.below hbel) hlt
      obtain ⟨q0, q1, q2, q3⟩ := SObserved.elems (A2.below hbel) hlt
      go_wp2_with fail
      refine wp_region_past (by kernel_rfl) (by kernel_rfl) ?_
      repeat (go_big_quiet_step ((go_at_call 33; exact Past.call _ (eqObserved_any xs[k] _))))
      refine wpQuiet_nil ?_
      intro W1 hw'
      obtain ⟨⟨W_, hb1⟩, hw''⟩ := hw'
      subst hw''
      go_wp2
      go_roundw
      case rel => exact ⟨k + 1, by omega, by go_num, Bel.trans hbel hb1⟩
      case measure => simp [intOf]; omega
    · obtain rfl : k = xs.length := by omega
      go_wp2
      go_ret
      exact ⟨rfl, hbel⟩
end Go.Proofs.Ytoiobpmpkfdidaa
