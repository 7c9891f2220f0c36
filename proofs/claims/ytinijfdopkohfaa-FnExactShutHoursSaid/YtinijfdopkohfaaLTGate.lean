/- The helpers of the laws package for the type Gate (sizes, copies, comparisons) do what they say. No condition beyond the theorems own. -/
import Derived.Test.YtinijfdopkohfaaChecked
import Derived.Test.YtinijfdopkohfaaApp
import Derived.Test.YtinijfdopkohfaaLTMark
namespace Go.Proofs.Ytinijfdopkohfaa
set_option linter.unusedSimpArgs false
set_option linter.unusedVariables false
open Go.RowKit
set_option maxHeartbeats 400000
theorem toGate_any (x : SGate) (w : World) : Calls Try.prog 26 #[.agg #[.string x.Id, .int .i64 x.Shut, .int .i64 x.Open, .int .i64 x.Hold, .bool x.Shuts, .int .i64 x.Calm]] w fun e w' => e = .returned (.agg #[.string x.Id, .int .i64 x.Shut, .int .i64 x.Open, .int .i64 x.Hold, .bool x.Shuts, .int .i64 x.Calm]) ∧ Below w.heap.size w w' := by
  go_enter Try.func26, Try.ntmps26
  go_wp2
  exact bodyPost_ret (v := .agg #[.string x.Id, .int .i64 x.Shut, .int .i64 x.Open, .int .i64 x.Hold, .bool x.Shuts, .int .i64 x.Calm]) (by simp [results, Try.results26, go_sem]) rfl ⟨rfl, (by repeat (first | (with_reducible assumption) | (with_reducible exact Below.refl _ _) | (with_reducible refine Bel.alloc ?_ _) | (with_reducible refine Below.drew ?_) | (with_reducible refine Bel.drewN ?_ _) | (with_reducible refine Bel.setCell ?_ (by (try simp) <;> omega) _) | (with_reducible refine Bel.trans ?_ (by assumption))))⟩
theorem toGateS_any (A : Option Addr) (c : Nat) (xs : List SGate) (w : World) (h : ArgS SGate.cells 6 w A xs) (hn : xs.length ≤ 1048576) :
    Calls Try.prog 34 #[.slice A xs.length c] w fun e w' => e = .returned (.slice (some ⟨w.heap.size, 0, none⟩) xs.length xs.length) ∧ Below w.heap.size w w' ∧ Own SGate.cells 6 46 w' w.heap.size xs := by
  have H := Lib.hid h
  clear h
  have hmk := mk_slice (P := Try.prog) 57 46 (.agg #[.string ByteArray.empty, .int .i64 0, .int .i64 0, .int .i64 0, .bool false, .int .i64 0]) 6 56 (by kernel_rfl) (by kernel_rfl) (by omega) xs.length hn
  go_enter Try.func34, Try.ntmps34
  go_wp2_with fail
  go_loopw [4] (fun i wr => ∃ k : Nat, k ≤ xs.length ∧ i = .int .i64 k ∧ Below w.heap.size w wr ∧ Part SGate.cells 6 46 wr w.heap.size xs k) (fun i wr => xs.length - (intOf i).toNat)
  case atStart => exact ⟨0, by omega, rfl, (by repeat (first | (with_reducible assumption) | (with_reducible exact Below.refl _ _) | (with_reducible refine Bel.alloc ?_ _) | (with_reducible refine Below.drew ?_) | (with_reducible refine Bel.drewN ?_ _) | (with_reducible refine Bel.setCell ?_ (by (try simp) <;> omega) _) | (with_reducible refine Bel.trans ?_ (by assumption)))), Part.made _ _ _⟩
  case round =>
    obtain ⟨k, hk, rfl, hbel, hpart⟩ := hrel
    by_cases hlt : k < xs.length
    · obtain ⟨b, o, rfl, hc⟩ := H.out (by omega)
      have hb := hc.1
      obtain ⟨e0, e1, e2, e3, e4, e5⟩ := SGate.arg (hc.below hbel hb) hlt
      clear hc H
      obtain ⟨u0_, r0, z0⟩ := hpart.room (i := k * 6) (by omega)
      obtain ⟨u1_, r1, z1⟩ := hpart.room (i := k * 6 + 1) (by omega)
      obtain ⟨u2_, r2, z2⟩ := hpart.room (i := k * 6 + 2) (by omega)
      obtain ⟨u3_, r3, z3⟩ := hpart.room (i := k * 6 + 3) (by omega)
      obtain ⟨u4_, r4, z4⟩ := hpart.room (i := k * 6 + 4) (by omega)
      obtain ⟨u5_, r5, z5⟩ := hpart.room (i := k * 6 + 5) (by omega)
      have HP := Lib.hid hpart
      have hpl := hpart.lt
      clear hpart
      go_wp2_with (go_at_call 26; refine (toGate_any xs[k] _).mono ?_; rintro e w1 ⟨rfl, hb1⟩; have hbt := Bel.trans hbel hb1; have r0 := (hb1.cell (p := ⟨w.heap.size, k * 6, none⟩) hpl).trans r0; have z0 := (hb1.frozen (p := ⟨w.heap.size, k * 6, none⟩) hpl).trans z0; have r1 := (hb1.cell (p := ⟨w.heap.size, k * 6 + 1, none⟩) hpl).trans r1; have z1 := (hb1.frozen (p := ⟨w.heap.size, k * 6 + 1, none⟩) hpl).trans z1; have r2 := (hb1.cell (p := ⟨w.heap.size, k * 6 + 2, none⟩) hpl).trans r2; have z2 := (hb1.frozen (p := ⟨w.heap.size, k * 6 + 2, none⟩) hpl).trans z2; have r3 := (hb1.cell (p := ⟨w.heap.size, k * 6 + 3, none⟩) hpl).trans r3; have z3 := (hb1.frozen (p := ⟨w.heap.size, k * 6 + 3, none⟩) hpl).trans z3; have r4 := (hb1.cell (p := ⟨w.heap.size, k * 6 + 4, none⟩) hpl).trans r4; have z4 := (hb1.frozen (p := ⟨w.heap.size, k * 6 + 4, none⟩) hpl).trans z4; have r5 := (hb1.cell (p := ⟨w.heap.size, k * 6 + 5, none⟩) hpl).trans r5; have z5 := (hb1.frozen (p := ⟨w.heap.size, k * 6 + 5, none⟩) hpl).trans z5)
      go_roundw
      case rel => exact ⟨k + 1, by omega, by go_num, Bel.setAll (Nat.le_refl _) (SGate.cells xs[k]) (k * 6) hbt, (HP.out.upto hb1 hpl).step hlt (fun _ => rfl)⟩
      case measure => simp [intOf]; omega
    · obtain rfl : k = xs.length := by omega
      have HP := Lib.hid hpart
      clear hpart
      go_wp2
      go_ret
      exact ⟨rfl, hbel, HP.out.own (Nat.le_refl _)⟩
theorem szGate_any (x : SGate) (left : Int) (w : World) (hf : x.Id.size ≤ 9223372036854775807) (h0 : 0 ≤ left) (h1 : left ≤ 1048576) :
    Calls Try.prog 24 #[.agg #[.string x.Id, .int .i64 x.Shut, .int .i64 x.Open, .int .i64 x.Hold, .bool x.Shuts, .int .i64 x.Calm], .int .i64 left] w fun e w' => (∃ r : Int, e = .returned (.int .i64 r) ∧ -1 ≤ r ∧ r ≤ left ∧ (0 ≤ r → (x.Id.size : Int) ≤ left)) ∧ Below w.heap.size w w' := by
  go_enter Try.func24, Try.ntmps24
  go_wp2
  all_goals
    go_ret
    exact ⟨⟨_, rfl, by omega, by omega, by omega⟩, (by repeat (first | (with_reducible assumption) | (with_reducible exact Below.refl _ _) | (with_reducible refine Bel.alloc ?_ _) | (with_reducible refine Below.drew ?_) | (with_reducible refine Bel.drewN ?_ _) | (with_reducible refine Bel.setCell ?_ (by (try simp) <;> omega) _) | (with_reducible refine Bel.trans ?_ (by assumption))))⟩
theorem szGateS_any (A : Option Addr) (c : Nat) (xs : List SGate) (left : Int) (w : World) (h : ArgS SGate.cells 6 w A xs) (hf : ∀ i (h : i < xs.length), xs[i].Id.size ≤ 9223372036854775807) (hn : xs.length ≤ 9223372036854775807) (h0 : 0 ≤ left) (h1 : left ≤ 1048576) :
    Calls Try.prog 32 #[.slice A xs.length c, .int .i64 left] w fun e w' => (∃ r : Int, e = .returned (.int .i64 r) ∧ -1 ≤ r ∧ r ≤ left ∧ (0 ≤ r → (xs.length : Int) ≤ left ∧ ∀ i (h : i < xs.length), (xs[i].Id.size : Int) ≤ left)) ∧ Below w.heap.size w w' := by
  have H := Lib.hid h
  clear h
  have HF := Lib.hid hf
  clear hf
  by_cases hb : left < (xs.length : Int)
  · go_enter Try.func32, Try.ntmps32
    go_wp2
    go_ret
    exact ⟨⟨_, rfl, by omega, by omega, by omega⟩, (by repeat (first | (with_reducible assumption) | (with_reducible exact Below.refl _ _) | (with_reducible refine Bel.alloc ?_ _) | (with_reducible refine Below.drew ?_) | (with_reducible refine Bel.drewN ?_ _) | (with_reducible refine Bel.setCell ?_ (by (try simp) <;> omega) _) | (with_reducible refine Bel.trans ?_ (by assumption))))⟩
  · go_enter Try.func32, Try.ntmps32
    go_wp2_with fail
    go_loopw [1, 5] (fun l i wr => ∃ (k : Nat) (r : Int), k ≤ xs.length ∧ i = .int .i64 k ∧ l = .int .i64 r ∧ 0 ≤ r ∧ r ≤ left ∧ (∀ i (h : i < xs.length), i < k → (xs[i].Id.size : Int) ≤ left) ∧ Below w.heap.size w wr) (fun _ i wr => xs.length - (intOf i).toNat)
    case atStart => exact ⟨0, _, by omega, rfl, rfl, by omega, by omega, fun i _ h0 => absurd h0 (by omega), (by repeat (first | (with_reducible assumption) | (with_reducible exact Below.refl _ _) | (with_reducible refine Bel.alloc ?_ _) | (with_reducible refine Below.drew ?_) | (with_reducible refine Bel.drewN ?_ _) | (with_reducible refine Bel.setCell ?_ (by (try simp) <;> omega) _) | (with_reducible refine Bel.trans ?_ (by assumption))))⟩
    case round =>
      obtain ⟨k, r, hk, rfl, rfl, hr0, hr1, hall, hbel⟩ := hrel
      have HA := Lib.hid hall
      clear hall
      by_cases hlt : k < xs.length
      · obtain ⟨b, o, rfl, hc⟩ := H.out (by omega)
        have hb := hc.1
        obtain ⟨e0, e1, e2, e3, e4, e5⟩ := SGate.arg (hc.below hbel hb) hlt
        clear hc H
        go_wp2_with (go_at_call 24; refine (szGate_any xs[k] r _ (HF.out k hlt) (by omega) (by omega)).mono ?_; rintro e w1 ⟨⟨r1, rfl, hr2, hr3, hr4⟩, hb1⟩)
        · go_ret
          exact ⟨⟨_, rfl, by omega, by omega, by omega⟩, Bel.trans hbel hb1⟩
        · go_roundw
          case rel => exact ⟨k + 1, r1, by omega, by go_num, rfl, by omega, by omega, fun i hi hik => by by_cases e : i = k; (subst e; have := hr4 (by omega); omega); exact HA.out i hi (by omega), Bel.trans hbel hb1⟩
          case measure => simp [intOf]; omega
      · obtain rfl : k = xs.length := by omega
        go_wp2
        go_ret
        exact ⟨⟨_, rfl, by omega, by omega, fun _ => ⟨by omega, fun i hi => HA.out i hi hi⟩⟩, hbel⟩
theorem markGateS_any (g c : Nat) (xs : List SGate) (k : Int) (w : World) (O : Own SGate.cells 6 46 w g xs) (hn : xs.length ≤ 1048576) (hk0 : 0 ≤ k) (hk1 : k ≤ 100000000) :
    Calls Try.prog 37 #[.slice (some ⟨g, 0, none⟩) xs.length c, .int .i64 k] w fun e w' => e = .returned (.int .i64 (k + 6 * xs.length)) ∧ w.grownBy w' (some g) := by
  obtain ⟨arr, hh, hsz, _⟩ := O
  have HH : Hid (Box 46 w g arr) := hh
  clear hh
  go_enter Try.func37, Try.ntmps37
  go_wp2_with fail
  go_loopw [1, 5] (fun kk i wr => ∃ (j : Nat) (cur : Array Value), j ≤ xs.length ∧ i = .int .i64 j ∧ kk = .int .i64 (k + 6 * j) ∧ w.grownBy wr (some g) ∧ Box 46 wr g cur ∧ cur.size = xs.length * 6) (fun _ i wr => xs.length - (intOf i).toNat)
  case atStart => exact ⟨0, arr, by omega, rfl, by simp, World.grownBy.refl _ _, HH.out, hsz⟩
  case round =>
    obtain ⟨j, cur, hj, rfl, rfl, hgr, B, hcs⟩ := hrel
    have HG := Lib.hid hgr
    clear hgr
    by_cases hlt : j < xs.length
    · have hc0 : j * 6 < cur.size := by omega
      have c0 : wr.cell? ⟨g, j * 6, none⟩ = some cur[j * 6] := (B.cell (j * 6)).trans (Array.getElem?_eq_getElem hc0)
      have z0 : wr.frozen? ⟨g, j * 6, none⟩ = false := B.free (j * 6)
      have hc1 : j * 6 + 1 < cur.size := by omega
      have c1 : wr.cell? ⟨g, j * 6 + 1, none⟩ = some cur[j * 6 + 1] := (B.cell (j * 6 + 1)).trans (Array.getElem?_eq_getElem hc1)
      have z1 : wr.frozen? ⟨g, j * 6 + 1, none⟩ = false := B.free (j * 6 + 1)
      have hc2 : j * 6 + 2 < cur.size := by omega
      have c2 : wr.cell? ⟨g, j * 6 + 2, none⟩ = some cur[j * 6 + 2] := (B.cell (j * 6 + 2)).trans (Array.getElem?_eq_getElem hc2)
      have z2 : wr.frozen? ⟨g, j * 6 + 2, none⟩ = false := B.free (j * 6 + 2)
      have hc3 : j * 6 + 3 < cur.size := by omega
      have c3 : wr.cell? ⟨g, j * 6 + 3, none⟩ = some cur[j * 6 + 3] := (B.cell (j * 6 + 3)).trans (Array.getElem?_eq_getElem hc3)
      have z3 : wr.frozen? ⟨g, j * 6 + 3, none⟩ = false := B.free (j * 6 + 3)
      have hc4 : j * 6 + 4 < cur.size := by omega
      have c4 : wr.cell? ⟨g, j * 6 + 4, none⟩ = some cur[j * 6 + 4] := (B.cell (j * 6 + 4)).trans (Array.getElem?_eq_getElem hc4)
      have z4 : wr.frozen? ⟨g, j * 6 + 4, none⟩ = false := B.free (j * 6 + 4)
      have hc5 : j * 6 + 5 < cur.size := by omega
      have c5 : wr.cell? ⟨g, j * 6 + 5, none⟩ = some cur[j * 6 + 5] := (B.cell (j * 6 + 5)).trans (Array.getElem?_eq_getElem hc5)
      have z5 : wr.frozen? ⟨g, j * 6 + 5, none⟩ = false := B.free (j * 6 + 5)
      have HB := Lib.hid B
      have HS := Lib.hid hcs
      clear B hcs
      go_wp2_with (go_at_call 58; refine (markText_any _ _ (by omega) (by omega)).mono ?_; rintro e w2 ⟨⟨s2, rfl⟩, hb2⟩; have hpl := HB.out.lt; have c0 := (hb2.cell (p := ⟨g, j * 6, none⟩) hpl).trans c0; have z0 := (hb2.frozen (p := ⟨g, j * 6, none⟩) hpl).trans z0; have c1 := (hb2.cell (p := ⟨g, j * 6 + 1, none⟩) hpl).trans c1; have z1 := (hb2.frozen (p := ⟨g, j * 6 + 1, none⟩) hpl).trans z1; have c2 := (hb2.cell (p := ⟨g, j * 6 + 2, none⟩) hpl).trans c2; have z2 := (hb2.frozen (p := ⟨g, j * 6 + 2, none⟩) hpl).trans z2; have c3 := (hb2.cell (p := ⟨g, j * 6 + 3, none⟩) hpl).trans c3; have z3 := (hb2.frozen (p := ⟨g, j * 6 + 3, none⟩) hpl).trans z3; have c4 := (hb2.cell (p := ⟨g, j * 6 + 4, none⟩) hpl).trans c4; have z4 := (hb2.frozen (p := ⟨g, j * 6 + 4, none⟩) hpl).trans z4; have c5 := (hb2.cell (p := ⟨g, j * 6 + 5, none⟩) hpl).trans c5; have z5 := (hb2.frozen (p := ⟨g, j * 6 + 5, none⟩) hpl).trans z5)
      go_roundw
      case rel => exact ⟨j + 1, _, by omega, by go_num, by go_num, (only_set (only_set (only_set (only_set (only_set (only_set (HG.out.trans (grown_of_below hb2 _)) rfl _) rfl _) rfl _) rfl _) rfl _) rfl _), (((((((HB.out.below hb2).set (j * 6) _).set (j * 6 + 1) _).set (j * 6 + 2) _).set (j * 6 + 3) _).set (j * 6 + 4) _).set (j * 6 + 5) _), by simpa using HS.out⟩
      case measure => simp [intOf]; omega
    · obtain rfl : j = xs.length := by omega
      go_wp2
      go_ret
      exact ⟨rfl, HG.out⟩
theorem eqGate_any (x : SGate) (w : World) : Calls Try.prog 75 #[.agg #[.string x.Id, .int .i64 x.Shut, .int .i64 x.Open, .int .i64 x.Hold, .bool x.Shuts, .int .i64 x.Calm], .agg #[.string x.Id, .int .i64 x.Shut, .int .i64 x.Open, .int .i64 x.Hold, .bool x.Shuts, .int .i64 x.Calm]] w fun e w' => e = .returned (.bool true) ∧ Below w.heap.size w w' := by
  go_enter Try.func75, Try.ntmps75
  go_wp2
  go_ret
  exact ⟨rfl, (by repeat (first | (with_reducible assumption) | (with_reducible exact Below.refl _ _) | (with_reducible refine Bel.alloc ?_ _) | (with_reducible refine Below.drew ?_) | (with_reducible refine Bel.drewN ?_ _) | (with_reducible refine Bel.setCell ?_ (by (try simp) <;> omega) _) | (with_reducible refine Bel.trans ?_ (by assumption))))⟩
theorem eqGateS_any (b1 c1 b2 c2 : Nat) (xs : List SGate) (w : World) (A1 : Arr SGate.cells 6 w b1 xs) (A2 : Arr SGate.cells 6 w b2 xs) (hn : xs.length ≤ 1048576) :
    Calls Try.prog 36 #[.slice (some ⟨b1, 0, none⟩) xs.length c1, .slice (some ⟨b2, 0, none⟩) xs.length c2] w fun e w' => e = .returned (.bool true) ∧ Below w.heap.size w w' := by
  go_enter Try.func36, Try.ntmps36
  go_wp2_with fail
  go_loopw [5] (fun i wr => ∃ k : Nat, k ≤ xs.length ∧ i = .int .i64 k ∧ Below w.heap.size w wr) (fun i wr => xs.length - (intOf i).toNat)
  case atStart => exact ⟨0, by omega, rfl, (by repeat (first | (with_reducible assumption) | (with_reducible exact Below.refl _ _) | (with_reducible refine Bel.alloc ?_ _) | (with_reducible refine Below.drew ?_) | (with_reducible refine Bel.drewN ?_ _) | (with_reducible refine Bel.setCell ?_ (by (try simp) <;> omega) _) | (with_reducible refine Bel.trans ?_ (by assumption))))⟩
  case round =>
    obtain ⟨k, hk, rfl, hbel⟩ := hrel
    by_cases hlt : k < xs.length
    · obtain ⟨p0, p1, p2, p3, p4, p5⟩ := SGate.elems (A1.below hbel) hlt
      obtain ⟨q0, q1, q2, q3, q4, q5⟩ := SGate.elems (A2.below hbel) hlt
      go_wp2_with fail
      refine wp_region_past (by kernel_rfl) (by kernel_rfl) ?_
      repeat (go_big_quiet_step ((go_at_call 75; exact Past.call _ (eqGate_any xs[k] _))))
      refine wpQuiet_nil ?_
      intro W1 hw'
      obtain ⟨⟨W_, hb1⟩, hw''⟩ := hw'
      subst hw''
      go_wp2
      go_roundw
      case rel => exact ⟨k + 1, by omega, by go_num, Bel.trans hbel hb1⟩
      case measure => simp [intOf]; omega
    · obtain rfl : k = xs.length := by omega
      go_wp2
      go_ret
      exact ⟨rfl, hbel⟩
end Go.Proofs.Ytinijfdopkohfaa
