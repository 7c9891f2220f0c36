/- The helpers of the laws package for the type Verified (sizes, copies, comparisons) do what they say. No condition beyond the theorems own. -/
import Derived.Test.YtgannknkohomdaaChecked
import Derived.Test.YtgannknkohomdaaApp
namespace Go.Proofs.Ytgannknkohomdaa
set_option linter.unusedSimpArgs false
set_option linter.unusedVariables false
open Go.RowKit
set_option maxHeartbeats 400000
theorem toVerified_any (x : SVerified) (w : World) : Calls Try.prog 27 #[.agg #[.int .i64 x.Day, .int .i64 x.Told, .int .i64 x.Seen]] w fun e w' => e = .returned (.agg #[.int .i64 x.Day, .int .i64 x.Told, .int .i64 x.Seen]) ∧ Below w.heap.size w w' := by
  go_enter Try.func27, Try.ntmps27
  go_wp2
  exact bodyPost_ret (v := .agg #[.int .i64 x.Day, .int .i64 x.Told, .int .i64 x.Seen]) (by simp [results, Try.results27, go_sem]) rfl ⟨rfl, (by repeat (first | (with_reducible assumption) | (with_reducible exact Below.refl _ _) | (with_reducible refine Bel.alloc ?_ _) | (with_reducible refine Below.drew ?_) | (with_reducible refine Bel.drewN ?_ _) | (with_reducible refine Bel.setCell ?_ (by (try simp) <;> omega) _) | (with_reducible refine Bel.trans ?_ (by assumption))))⟩
theorem toVerifiedS_any (A : Option Addr) (c : Nat) (xs : List SVerified) (w : World) (h : ArgS SVerified.cells 3 w A xs) (hn : xs.length ≤ 1048576) :
    Calls Try.prog 12 #[.slice A xs.length c] w fun e w' => e = .returned (.slice (some ⟨w.heap.size, 0, none⟩) xs.length xs.length) ∧ Below w.heap.size w w' ∧ Own SVerified.cells 3 52 w' w.heap.size xs := by
  have H := Lib.hid h
  clear h
  have hmk := mk_slice (P := Try.prog) 36 52 (.agg #[.int .i64 0, .int .i64 0, .int .i64 0]) 3 24 (by kernel_rfl) (by kernel_rfl) (by omega) xs.length hn
  go_enter Try.func12, Try.ntmps12
  go_wp2_with fail
  go_loopw [4] (fun i wr => ∃ k : Nat, k ≤ xs.length ∧ i = .int .i64 k ∧ Below w.heap.size w wr ∧ Part SVerified.cells 3 52 wr w.heap.size xs k) (fun i wr => xs.length - (intOf i).toNat)
  case atStart => exact ⟨0, by omega, rfl, (by repeat (first | (with_reducible assumption) | (with_reducible exact Below.refl _ _) | (with_reducible refine Bel.alloc ?_ _) | (with_reducible refine Below.drew ?_) | (with_reducible refine Bel.drewN ?_ _) | (with_reducible refine Bel.setCell ?_ (by (try simp) <;> omega) _) | (with_reducible refine Bel.trans ?_ (by assumption)))), Part.made _ _ _⟩
  case round =>
    obtain ⟨k, hk, rfl, hbel, hpart⟩ := hrel
    by_cases hlt : k < xs.length
    · obtain ⟨b, o, rfl, hc⟩ := H.out (by omega)
      have hb := hc.1
      obtain ⟨e0, e1, e2⟩ := SVerified.arg (hc.below hbel hb) hlt
      clear hc H
      obtain ⟨u0_, r0, z0⟩ := hpart.room (i := k * 3) (by omega)
      obtain ⟨u1_, r1, z1⟩ := hpart.room (i := k * 3 + 1) (by omega)
      obtain ⟨u2_, r2, z2⟩ := hpart.room (i := k * 3 + 2) (by omega)
      have HP := Lib.hid hpart
      have hpl := hpart.lt
      clear hpart
      go_wp2_with (go_at_call 27; refine (toVerified_any xs[k] _).mono ?_; rintro e w1 ⟨rfl, hb1⟩; have hbt := Bel.trans hbel hb1; have r0 := (hb1.cell (p := ⟨w.heap.size, k * 3, none⟩) hpl).trans r0; have z0 := (hb1.frozen (p := ⟨w.heap.size, k * 3, none⟩) hpl).trans z0; have r1 := (hb1.cell (p := ⟨w.heap.size, k * 3 + 1, none⟩) hpl).trans r1; have z1 := (hb1.frozen (p := ⟨w.heap.size, k * 3 + 1, none⟩) hpl).trans z1; have r2 := (hb1.cell (p := ⟨w.heap.size, k * 3 + 2, none⟩) hpl).trans r2; have z2 := (hb1.frozen (p := ⟨w.heap.size, k * 3 + 2, none⟩) hpl).trans z2)
      go_roundw
      case rel => exact ⟨k + 1, by omega, by go_num, Bel.setAll (Nat.le_refl _) (SVerified.cells xs[k]) (k * 3) hbt, (HP.out.upto hb1 hpl).step hlt (fun _ => rfl)⟩
      case measure => simp [intOf]; omega
    · obtain rfl : k = xs.length := by omega
      have HP := Lib.hid hpart
      clear hpart
      go_wp2
      go_ret
      exact ⟨rfl, hbel, HP.out.own (Nat.le_refl _)⟩
theorem szVerifiedS_any (A : Option Addr) (n c : Nat) (left : Int) (w : World) (hn : n ≤ 9223372036854775807) (h0 : 0 ≤ left) (h1 : left ≤ 1048576) :
    Calls Try.prog 10 #[.slice A n c, .int .i64 left] w fun e w' => (∃ r : Int, e = .returned (.int .i64 r) ∧ -1 ≤ r ∧ r ≤ left ∧ (0 ≤ r → (n : Int) ≤ left)) ∧ w = w' := by
  go_enter Try.func10, Try.ntmps10
  go_wp2
  all_goals
    go_ret
    exact ⟨⟨_, rfl, by omega, by omega, by omega⟩, rfl⟩
theorem markVerifiedS_any (g c : Nat) (xs : List SVerified) (k : Int) (w : World) (O : Own SVerified.cells 3 52 w g xs) (hn : xs.length ≤ 1048576) (hk0 : 0 ≤ k) (hk1 : k ≤ 1000000000) :
    Calls Try.prog 16 #[.slice (some ⟨g, 0, none⟩) xs.length c, .int .i64 k] w fun e w' => e = .returned (.int .i64 (k + 3 * xs.length)) ∧ w.grownBy w' (some g) := by
  obtain ⟨arr, hh, hsz, _⟩ := O
  have HH : Hid (Box 52 w g arr) := hh
  clear hh
  go_enter Try.func16, Try.ntmps16
  go_wp2_with fail
  go_loopw [1, 5] (fun kk i wr => ∃ (j : Nat) (cur : Array Value), j ≤ xs.length ∧ i = .int .i64 j ∧ kk = .int .i64 (k + 3 * j) ∧ w.grownBy wr (some g) ∧ Box 52 wr g cur ∧ cur.size = xs.length * 3) (fun _ i wr => xs.length - (intOf i).toNat)
  case atStart => exact ⟨0, arr, by omega, rfl, by simp, World.grownBy.refl _ _, HH.out, hsz⟩
  case round =>
    obtain ⟨j, cur, hj, rfl, rfl, hgr, B, hcs⟩ := hrel
    have HG := Lib.hid hgr
    clear hgr
    by_cases hlt : j < xs.length
    · have hc0 : j * 3 < cur.size := by omega
      have c0 : wr.cell? ⟨g, j * 3, none⟩ = some cur[j * 3] := (B.cell (j * 3)).trans (Array.getElem?_eq_getElem hc0)
      have z0 : wr.frozen? ⟨g, j * 3, none⟩ = false := B.free (j * 3)
      have hc1 : j * 3 + 1 < cur.size := by omega
      have c1 : wr.cell? ⟨g, j * 3 + 1, none⟩ = some cur[j * 3 + 1] := (B.cell (j * 3 + 1)).trans (Array.getElem?_eq_getElem hc1)
      have z1 : wr.frozen? ⟨g, j * 3 + 1, none⟩ = false := B.free (j * 3 + 1)
      have hc2 : j * 3 + 2 < cur.size := by omega
      have c2 : wr.cell? ⟨g, j * 3 + 2, none⟩ = some cur[j * 3 + 2] := (B.cell (j * 3 + 2)).trans (Array.getElem?_eq_getElem hc2)
      have z2 : wr.frozen? ⟨g, j * 3 + 2, none⟩ = false := B.free (j * 3 + 2)
      have HB := Lib.hid B
      have HS := Lib.hid hcs
      clear B hcs
      go_wp2
      go_roundw
      case rel => exact ⟨j + 1, _, by omega, by go_num, by go_num, (only_set (only_set (only_set HG.out rfl _) rfl _) rfl _), (((HB.out.set (j * 3) _).set (j * 3 + 1) _).set (j * 3 + 2) _), by simpa using HS.out⟩
      case measure => simp [intOf]; omega
    · obtain rfl : j = xs.length := by omega
      go_wp2
      go_ret
      exact ⟨rfl, HG.out⟩
theorem eqVerified_any (x : SVerified) (w : World) : Calls Try.prog 30 #[.agg #[.int .i64 x.Day, .int .i64 x.Told, .int .i64 x.Seen], .agg #[.int .i64 x.Day, .int .i64 x.Told, .int .i64 x.Seen]] w fun e w' => e = .returned (.bool true) ∧ Below w.heap.size w w' := by
  go_enter Try.func30, Try.ntmps30
  go_wp2
  go_ret
  exact ⟨rfl, (by repeat (first | (with_reducible assumption) | (with_reducible exact Below.refl _ _) | (with_reducible refine Bel.alloc ?_ _) | (with_reducible refine Below.drew ?_) | (with_reducible refine Bel.drewN ?_ _) | (with_reducible refine Bel.setCell ?_ (by (try simp) <;> omega) _) | (with_reducible refine Bel.trans ?_ (by assumption))))⟩
theorem eqVerifiedS_any (b1 c1 b2 c2 : Nat) (xs : List SVerified) (w : World) (A1 : Arr SVerified.cells 3 w b1 xs) (A2 : Arr SVerified.cells 3 w b2 xs) (hn : xs.length ≤ 1048576) :
    Calls Try.prog 15 #[.slice (some ⟨b1, 0, none⟩) xs.length c1, .slice (some ⟨b2, 0, none⟩) xs.length c2] w fun e w' => e = .returned (.bool true) ∧ Below w.heap.size w w' := by
  go_enter Try.func15, Try.ntmps15
  go_wp2_with fail
  go_loopw [5] (fun i wr => ∃ k : Nat, k ≤ xs.length ∧ i = .int .i64 k ∧ Below w.heap.size w wr) (fun i wr => xs.length - (intOf i).toNat)
  case atStart => exact ⟨0, by omega, rfl, (by repeat (first | (with_reducible assumption) | (with_reducible exact Below.refl _ _) | (with_reducible refine Bel.alloc ?_ _) | (with_reducible refine Below.drew ?_) | (with_reducible refine Bel.drewN ?_ _) | (with_reducible refine Bel.setCell ?_ (by (try simp) <;> omega) _) | (with_reducible refine Bel.trans ?_ (by assumption))))⟩
  case round =>
    obtain ⟨k, hk, rfl, hbel⟩ := hrel
    by_cases hlt : k < xs.length
    · obtain ⟨p0, p1, p2⟩ := SVerified.elems (A1.below hbel) hlt
      obtain ⟨q0, q1, q2⟩ := SVerified.elems (A2.below hbel) hlt
      go_wp2_with fail
      refine wp_region_past (by kernel_rfl) (by kernel_rfl) ?_
      repeat (go_big_quiet_step ((go_at_call 30; exact Past.call _ (eqVerified_any xs[k] _))))
      refine wpQuiet_nil ?_
      intro W1 hw'
      obtain ⟨⟨W_, hb1⟩, hw''⟩ := hw'
      subst hw''
      go_wp2
      go_roundw
      case rel => exact ⟨k + 1, by omega, by go_num, Bel.trans hbel hb1⟩
      case measure => simp [intOf]; omega
    · obtain rfl : k = xs.length := by omega
      go_wp2
      go_ret
      exact ⟨rfl, hbel⟩
end Go.Proofs.Ytgannknkohomdaa
