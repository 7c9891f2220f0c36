/- The helpers of the laws package for the type Incident (sizes, copies, comparisons) do what they say. No condition beyond the theorems own. -/
import Derived.Test.YtabhojeikhfcfaaChecked
import Derived.Test.YtabhojeikhfcfaaApp
namespace Go.Proofs.Ytabhojeikhfcfaa
open Go.RowKit
set_option maxHeartbeats 400000
theorem toIncident_any (x : SIncident) (w : World) : Calls Try.prog 32 #[.agg #[.int .i64 x.Day, .string x.Place, .string x.Cause, .int .i64 x.Level, .int .i64 x.Caught, .int .i64 x.Buried]] w fun e w' => e = .returned (.agg #[.int .i64 x.Day, .string x.Place, .string x.Cause, .int .i64 x.Level, .int .i64 x.Caught, .int .i64 x.Buried]) ∧ Below w.heap.size w w' := by
  go_enter Try.func32, Try.ntmps32
  go_wp2
  exact bodyPost_ret (v := .agg #[.int .i64 x.Day, .string x.Place, .string x.Cause, .int .i64 x.Level, .int .i64 x.Caught, .int .i64 x.Buried]) (by simp [results, Try.results32, go_sem]) rfl ⟨rfl, (by repeat (first | (with_reducible assumption) | (with_reducible exact Below.refl _ _) | (with_reducible refine Bel.alloc ?_ _) | (with_reducible refine Below.drew ?_) | (with_reducible refine Bel.drewN ?_ _) | (with_reducible refine Bel.setCell ?_ (by (try simp) <;> omega) _) | (with_reducible refine Bel.trans ?_ (by assumption))))⟩
theorem toIncidentS_any (A : Option Addr) (c : Nat) (xs : List SIncident) (w : World) (h : ArgS SIncident.cells 6 w A xs) (hn : xs.length ≤ 1048576) :
    Calls Try.prog 12 #[.slice A xs.length c] w fun e w' => e = .returned (.slice (some ⟨w.heap.size, 0, none⟩) xs.length xs.length) ∧ Below w.heap.size w w' ∧ Own SIncident.cells 6 47 w' w.heap.size xs := by
  have H := Lib.hid h
  clear h
  have hmk := mk_slice (P := Try.prog) 26 47 (.agg #[.int .i64 0, .string ByteArray.empty, .string ByteArray.empty, .int .i64 0, .int .i64 0, .int .i64 0]) 6 64 (by kernel_rfl) (by kernel_rfl) (by omega) xs.length hn
  go_enter Try.func12, Try.ntmps12
  go_wp2_with fail
  go_loopw [4] (fun i wr => ∃ k : Nat, k ≤ xs.length ∧ i = .int .i64 k ∧ Below w.heap.size w wr ∧ Part SIncident.cells 6 47 wr w.heap.size xs k) (fun i wr => xs.length - (intOf i).toNat)
  case atStart => exact ⟨0, by omega, rfl, (by repeat (first | (with_reducible assumption) | (with_reducible exact Below.refl _ _) | (with_reducible refine Bel.alloc ?_ _) | (with_reducible refine Below.drew ?_) | (with_reducible refine Bel.drewN ?_ _) | (with_reducible refine Bel.setCell ?_ (by (try simp) <;> omega) _) | (with_reducible refine Bel.trans ?_ (by assumption)))), Part.made _ _ _⟩
  case round =>
    obtain ⟨k, hk, rfl, hbel, hpart⟩ := hrel
    by_cases hlt : k < xs.length
    · obtain ⟨b, o, rfl, hc⟩ := H.out (by omega)
      have hb := hc.1
      obtain ⟨e0, e1, e2, e3, e4, e5⟩ := SIncident.arg (hc.below hbel hb) hlt
      clear hc H
      obtain ⟨u0_, r0, z0⟩ := hpart.room (i := k * 6) (by omega)
      obtain ⟨u1_, r1, z1⟩ := hpart.room (i := k * 6 + 1) (by omega)
      obtain ⟨u2_, r2, z2⟩ := hpart.room (i := k * 6 + 2) (by omega)
      obtain ⟨u3_, r3, z3⟩ := hpart.room (i := k * 6 + 3) (by omega)
      obtain ⟨u4_, r4, z4⟩ := hpart.room (i := k * 6 + 4) (by omega)
      obtain ⟨u5_, r5, z5⟩ := hpart.room (i := k * 6 + 5) (by omega)
      have HP := Lib.hid hpart
      have hpl := hpart.lt
      clear hpart
      go_wp2_with (go_at_call 32; refine (toIncident_any xs[k] _).mono ?_; rintro e w1 ⟨rfl, hb1⟩; have hbt := Bel.trans hbel hb1; have r0 := (hb1.cell (p := ⟨w.heap.size, k * 6, none⟩) hpl).trans r0; have z0 := (hb1.frozen (p := ⟨w.heap.size, k * 6, none⟩) hpl).trans z0; have r1 := (hb1.cell (p := ⟨w.heap.size, k * 6 + 1, none⟩) hpl).trans r1; have z1 := (hb1.frozen (p := ⟨w.heap.size, k * 6 + 1, none⟩) hpl).trans z1; have r2 := (hb1.cell (p := ⟨w.heap.size, k * 6 + 2, none⟩) hpl).trans r2; have z2 := (hb1.frozen (p := ⟨w.heap.size, k * 6 + 2, none⟩) hpl).trans z2; have r3 := (hb1.cell (p := ⟨w.heap.size, k * 6 + 3, none⟩) hpl).trans r3; have z3 := (hb1.frozen (p := ⟨w.heap.size, k * 6 + 3, none⟩) hpl).trans z3; have r4 := (hb1.cell (p := ⟨w.heap.size, k * 6 + 4, none⟩) hpl).trans r4; have z4 := (hb1.frozen (p := ⟨w.heap.size, k * 6 + 4, none⟩) hpl).trans z4; have r5 := (hb1.cell (p := ⟨w.heap.size, k * 6 + 5, none⟩) hpl).trans r5; have z5 := (hb1.frozen (p := ⟨w.heap.size, k * 6 + 5, none⟩) hpl).trans z5)
      go_roundw
      case rel => exact ⟨k + 1, by omega, by go_num, Bel.setAll (Nat.le_refl _) (SIncident.cells xs[k]) (k * 6) hbt, (HP.out.upto hb1 hpl).step hlt (fun _ => rfl)⟩
      case measure => simp [intOf]; omega
    · obtain rfl : k = xs.length := by omega
      have HP := Lib.hid hpart
      clear hpart
      go_wp2
      go_ret
      exact ⟨rfl, hbel, HP.out.own (Nat.le_refl _)⟩
theorem szIncident_any (x : SIncident) (left : Int) (w : World) (hf : x.Place.size ≤ 9223372036854775807 ∧ x.Cause.size ≤ 9223372036854775807) (h0 : 0 ≤ left) (h1 : left ≤ 1048576) :
    Calls Try.prog 29 #[.agg #[.int .i64 x.Day, .string x.Place, .string x.Cause, .int .i64 x.Level, .int .i64 x.Caught, .int .i64 x.Buried], .int .i64 left] w fun e w' => (∃ r : Int, e = .returned (.int .i64 r) ∧ -1 ≤ r ∧ r ≤ left ∧ (0 ≤ r → (x.Place.size : Int) ≤ left ∧ (x.Cause.size : Int) ≤ left)) ∧ Below w.heap.size w w' := by
  go_enter Try.func29, Try.ntmps29
  go_wp2
  all_goals
    go_ret
    exact ⟨⟨_, rfl, by omega, by omega, by omega⟩, (by repeat (first | (with_reducible assumption) | (with_reducible exact Below.refl _ _) | (with_reducible refine Bel.alloc ?_ _) | (with_reducible refine Below.drew ?_) | (with_reducible refine Bel.drewN ?_ _) | (with_reducible refine Bel.setCell ?_ (by (try simp) <;> omega) _) | (with_reducible refine Bel.trans ?_ (by assumption))))⟩
theorem szIncidentS_any (A : Option Addr) (c : Nat) (xs : List SIncident) (left : Int) (w : World) (h : ArgS SIncident.cells 6 w A xs) (hf : ∀ i (h : i < xs.length), xs[i].Place.size ≤ 9223372036854775807 ∧ xs[i].Cause.size ≤ 9223372036854775807) (hn : xs.length ≤ 9223372036854775807) (h0 : 0 ≤ left) (h1 : left ≤ 1048576) :
    Calls Try.prog 10 #[.slice A xs.length c, .int .i64 left] w fun e w' => (∃ r : Int, e = .returned (.int .i64 r) ∧ -1 ≤ r ∧ r ≤ left ∧ (0 ≤ r → (xs.length : Int) ≤ left ∧ ∀ i (h : i < xs.length), (xs[i].Place.size : Int) ≤ left ∧ (xs[i].Cause.size : Int) ≤ left)) ∧ Below w.heap.size w w' := by
  have H := Lib.hid h
  clear h
  have HF := Lib.hid hf
  clear hf
  by_cases hb : left < (xs.length : Int)
  · go_enter Try.func10, Try.ntmps10
    go_wp2
    go_ret
    exact ⟨⟨_, rfl, by omega, by omega, by omega⟩, (by repeat (first | (with_reducible assumption) | (with_reducible exact Below.refl _ _) | (with_reducible refine Bel.alloc ?_ _) | (with_reducible refine Below.drew ?_) | (with_reducible refine Bel.drewN ?_ _) | (with_reducible refine Bel.setCell ?_ (by (try simp) <;> omega) _) | (with_reducible refine Bel.trans ?_ (by assumption))))⟩
  · go_enter Try.func10, Try.ntmps10
    go_wp2_with fail
    go_loopw [1, 5] (fun l i wr => ∃ (k : Nat) (r : Int), k ≤ xs.length ∧ i = .int .i64 k ∧ l = .int .i64 r ∧ 0 ≤ r ∧ r ≤ left ∧ (∀ i (h : i < xs.length), i < k → (xs[i].Place.size : Int) ≤ left ∧ (xs[i].Cause.size : Int) ≤ left) ∧ Below w.heap.size w wr) (fun _ i wr => xs.length - (intOf i).toNat)
    case atStart => exact ⟨0, _, by omega, rfl, rfl, by omega, by omega, fun i _ h0 => absurd h0 (by omega), (by repeat (first | (with_reducible assumption) | (with_reducible exact Below.refl _ _) | (with_reducible refine Bel.alloc ?_ _) | (with_reducible refine Below.drew ?_) | (with_reducible refine Bel.drewN ?_ _) | (with_reducible refine Bel.setCell ?_ (by (try simp) <;> omega) _) | (with_reducible refine Bel.trans ?_ (by assumption))))⟩
    case round =>
      obtain ⟨k, r, hk, rfl, rfl, hr0, hr1, hall, hbel⟩ := hrel
      have HA := Lib.hid hall
      clear hall
      by_cases hlt : k < xs.length
      · obtain ⟨b, o, rfl, hc⟩ := H.out (by omega)
        have hb := hc.1
        obtain ⟨e0, e1, e2, e3, e4, e5⟩ := SIncident.arg (hc.below hbel hb) hlt
        clear hc H
        go_wp2_with (go_at_call 29; refine (szIncident_any xs[k] r _ (HF.out k hlt) (by omega) (by omega)).mono ?_; rintro e w1 ⟨⟨r1, rfl, hr2, hr3, hr4⟩, hb1⟩)
        · go_ret
          exact ⟨⟨_, rfl, by omega, by omega, by omega⟩, Bel.trans hbel hb1⟩
        · go_roundw
          case rel => exact ⟨k + 1, r1, by omega, by go_num, rfl, by omega, by omega, fun i hi hik => by by_cases e : i = k; (subst e; have := hr4 (by omega); omega); exact HA.out i hi (by omega), Bel.trans hbel hb1⟩
          case measure => simp [intOf]; omega
      · obtain rfl : k = xs.length := by omega
        go_wp2
        go_ret
        exact ⟨⟨_, rfl, by omega, by omega, fun _ => ⟨by omega, fun i hi => HA.out i hi hi⟩⟩, hbel⟩
theorem eqIncident_any (x : SIncident) (w : World) : Calls Try.prog 34 #[.agg #[.int .i64 x.Day, .string x.Place, .string x.Cause, .int .i64 x.Level, .int .i64 x.Caught, .int .i64 x.Buried], .agg #[.int .i64 x.Day, .string x.Place, .string x.Cause, .int .i64 x.Level, .int .i64 x.Caught, .int .i64 x.Buried]] w fun e w' => e = .returned (.bool true) ∧ Below w.heap.size w w' := by
  go_enter Try.func34, Try.ntmps34
  go_wp2
  go_ret
  exact ⟨rfl, (by repeat (first | (with_reducible assumption) | (with_reducible exact Below.refl _ _) | (with_reducible refine Bel.alloc ?_ _) | (with_reducible refine Below.drew ?_) | (with_reducible refine Bel.drewN ?_ _) | (with_reducible refine Bel.setCell ?_ (by (try simp) <;> omega) _) | (with_reducible refine Bel.trans ?_ (by assumption))))⟩
theorem eqIncidentS_any (b1 c1 b2 c2 : Nat) (xs : List SIncident) (w : World) (A1 : Arr SIncident.cells 6 w b1 xs) (A2 : Arr SIncident.cells 6 w b2 xs) (hn : xs.length ≤ 1048576) :
    Calls Try.prog 14 #[.slice (some ⟨b1, 0, none⟩) xs.length c1, .slice (some ⟨b2, 0, none⟩) xs.length c2] w fun e w' => e = .returned (.bool true) ∧ Below w.heap.size w w' := by
  go_enter Try.func14, Try.ntmps14
  go_wp2_with fail
  go_loopw [5] (fun i wr => ∃ k : Nat, k ≤ xs.length ∧ i = .int .i64 k ∧ Below w.heap.size w wr) (fun i wr => xs.length - (intOf i).toNat)
  case atStart => exact ⟨0, by omega, rfl, (by repeat (first | (with_reducible assumption) | (with_reducible exact Below.refl _ _) | (with_reducible refine Bel.alloc ?_ _) | (with_reducible refine Below.drew ?_) | (with_reducible refine Bel.drewN ?_ _) | (with_reducible refine Bel.setCell ?_ (by (try simp) <;> omega) _) | (with_reducible refine Bel.trans ?_ (by assumption))))⟩
  case round =>
    obtain ⟨k, hk, rfl, hbel⟩ := hrel
    by_cases hlt : k < xs.length
    · obtain ⟨p0, p1, p2, p3, p4, p5⟩ := SIncident.elems (A1.below hbel) hlt
      obtain ⟨q0, q1, q2, q3, q4, q5⟩ := SIncident.elems (A2.below hbel) hlt
      go_wp2_with fail
      refine wp_region_past (by kernel_rfl) (by kernel_rfl) ?_
      repeat (go_big_quiet_step ((go_at_call 34; exact Past.call _ (eqIncident_any xs[k] _))))
      refine wpQuiet_nil ?_
      intro W1 hw'
      obtain ⟨⟨W_, hb1⟩, hw''⟩ := hw'
      subst hw''
      go_wp2
      go_roundw
      case rel => exact ⟨k + 1, by omega, by go_num, Bel.trans hbel hb1⟩
      case measure => simp [intOf]; omega
    · obtain rfl : k = xs.length := by omega
      go_wp2
      go_ret
      exact ⟨rfl, hbel⟩
end Go.Proofs.Ytabhojeikhfcfaa
