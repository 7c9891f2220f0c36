/- The helpers of the laws package for the type Setting (sizes, copies, comparisons) do what they say. No condition beyond the theorems own. -/
import Derived.Test.YtfbnckgfgaddkaaChecked
import Derived.Test.YtfbnckgfgaddkaaApp
namespace Go.Proofs.Ytfbnckgfgaddkaa
set_option linter.unusedSimpArgs false
set_option linter.unusedVariables false
open Go.RowKit
set_option maxHeartbeats 400000
theorem toSetting_any (x : SSetting) (w : World) : Calls Try.prog 43 #[.agg #[.string x.Name, .int .i64 x.Val]] w fun e w' => e = .returned (.agg #[.string x.Name, .int .i64 x.Val]) ∧ Below w.heap.size w w' := by
  go_enter Try.func43, Try.ntmps43
  go_wp2
  exact bodyPost_ret (v := .agg #[.string x.Name, .int .i64 x.Val]) (by simp [results, Try.results43, go_sem]) rfl ⟨rfl, (by repeat (first | (with_reducible assumption) | (with_reducible exact Below.refl _ _) | (with_reducible refine Bel.alloc ?_ _) | (with_reducible refine Below.drew ?_) | (with_reducible refine Bel.drewN ?_ _) | (with_reducible refine Bel.setCell ?_ (by (try simp) <;> omega) _) | (with_reducible refine Bel.trans ?_ (by assumption))))⟩
theorem toSettingS_any (A : Option Addr) (c : Nat) (xs : List SSetting) (w : World) (h : ArgS SSetting.cells 2 w A xs) (hn : xs.length ≤ 1048576) :
    Calls Try.prog 34 #[.slice A xs.length c] w fun e w' => e = .returned (.slice (some ⟨w.heap.size, 0, none⟩) xs.length xs.length) ∧ Below w.heap.size w w' ∧ Own SSetting.cells 2 64 w' w.heap.size xs := by
  have H := Lib.hid h
  clear h
  have hmk := mk_slice (P := Try.prog) 44 64 (.agg #[.string ByteArray.empty, .int .i64 0]) 2 24 (by kernel_rfl) (by kernel_rfl) (by omega) xs.length hn
  go_enter Try.func34, Try.ntmps34
  go_wp2_with fail
  go_loopw [4] (fun i wr => ∃ k : Nat, k ≤ xs.length ∧ i = .int .i64 k ∧ Below w.heap.size w wr ∧ Part SSetting.cells 2 64 wr w.heap.size xs k) (fun i wr => xs.length - (intOf i).toNat)
  case atStart => exact ⟨0, by omega, rfl, (by repeat (first | (with_reducible assumption) | (with_reducible exact Below.refl _ _) | (with_reducible refine Bel.alloc ?_ _) | (with_reducible refine Below.drew ?_) | (with_reducible refine Bel.drewN ?_ _) | (with_reducible refine Bel.setCell ?_ (by (try simp) <;> omega) _) | (with_reducible refine Bel.trans ?_ (by assumption)))), Part.made _ _ _⟩
  case round =>
    obtain ⟨k, hk, rfl, hbel, hpart⟩ := hrel
    by_cases hlt : k < xs.length
    · obtain ⟨b, o, rfl, hc⟩ := H.out (by omega)
      have hb := hc.1
      obtain ⟨e0, e1⟩ := SSetting.arg (hc.below hbel hb) hlt
      clear hc H
      obtain ⟨u0_, r0, z0⟩ := hpart.room (i := k * 2) (by omega)
      obtain ⟨u1_, r1, z1⟩ := hpart.room (i := k * 2 + 1) (by omega)
      have HP := Lib.hid hpart
      have hpl := hpart.lt
      clear hpart
      go_wp2_with (go_at_call 43; refine (toSetting_any xs[k] _).mono ?_; rintro e w1 ⟨rfl, hb1⟩; have hbt := Bel.trans hbel hb1; have r0 := (hb1.cell (p := ⟨w.heap.size, k * 2, none⟩) hpl).trans r0; have z0 := (hb1.frozen (p := ⟨w.heap.size, k * 2, none⟩) hpl).trans z0; have r1 := (hb1.cell (p := ⟨w.heap.size, k * 2 + 1, none⟩) hpl).trans r1; have z1 := (hb1.frozen (p := ⟨w.heap.size, k * 2 + 1, none⟩) hpl).trans z1)
      go_roundw
      case rel => exact ⟨k + 1, by omega, by go_num, Bel.setAll (Nat.le_refl _) (SSetting.cells xs[k]) (k * 2) hbt, (HP.out.upto hb1 hpl).step hlt (fun _ => rfl)⟩
      case measure => simp [intOf]; omega
    · obtain rfl : k = xs.length := by omega
      have HP := Lib.hid hpart
      clear hpart
      go_wp2
      go_ret
      exact ⟨rfl, hbel, HP.out.own (Nat.le_refl _)⟩
theorem szSetting_any (x : SSetting) (left : Int) (w : World) (hf : x.Name.size ≤ 9223372036854775807) (h0 : 0 ≤ left) (h1 : left ≤ 1048576) :
    Calls Try.prog 41 #[.agg #[.string x.Name, .int .i64 x.Val], .int .i64 left] w fun e w' => (∃ r : Int, e = .returned (.int .i64 r) ∧ -1 ≤ r ∧ r ≤ left ∧ (0 ≤ r → (x.Name.size : Int) ≤ left)) ∧ Below w.heap.size w w' := by
  go_enter Try.func41, Try.ntmps41
  go_wp2
  all_goals
    go_ret
    exact ⟨⟨_, rfl, by omega, by omega, by omega⟩, (by repeat (first | (with_reducible assumption) | (with_reducible exact Below.refl _ _) | (with_reducible refine Bel.alloc ?_ _) | (with_reducible refine Below.drew ?_) | (with_reducible refine Bel.drewN ?_ _) | (with_reducible refine Bel.setCell ?_ (by (try simp) <;> omega) _) | (with_reducible refine Bel.trans ?_ (by assumption))))⟩
theorem szSettingS_any (A : Option Addr) (c : Nat) (xs : List SSetting) (left : Int) (w : World) (h : ArgS SSetting.cells 2 w A xs) (hf : ∀ i (h : i < xs.length), xs[i].Name.size ≤ 9223372036854775807) (hn : xs.length ≤ 9223372036854775807) (h0 : 0 ≤ left) (h1 : left ≤ 1048576) :
    Calls Try.prog 31 #[.slice A xs.length c, .int .i64 left] w fun e w' => (∃ r : Int, e = .returned (.int .i64 r) ∧ -1 ≤ r ∧ r ≤ left ∧ (0 ≤ r → (xs.length : Int) ≤ left ∧ ∀ i (h : i < xs.length), (xs[i].Name.size : Int) ≤ left)) ∧ Below w.heap.size w w' := by
  have H := Lib.hid h
  clear h
  have HF := Lib.hid hf
  clear hf
  by_cases hb : left < (xs.length : Int)
  · go_enter Try.func31, Try.ntmps31
    go_wp2
    go_ret
    exact ⟨⟨_, rfl, by omega, by omega, by omega⟩, (by repeat (first | (with_reducible assumption) | (with_reducible exact Below.refl _ _) | (with_reducible refine Bel.alloc ?_ _) | (with_reducible refine Below.drew ?_) | (with_reducible refine Bel.drewN ?_ _) | (with_reducible refine Bel.setCell ?_ (by (try simp) <;> omega) _) | (with_reducible refine Bel.trans ?_ (by assumption))))⟩
  · go_enter Try.func31, Try.ntmps31
    go_wp2_with fail
    go_loopw [1, 5] (fun l i wr => ∃ (k : Nat) (r : Int), k ≤ xs.length ∧ i = .int .i64 k ∧ l = .int .i64 r ∧ 0 ≤ r ∧ r ≤ left ∧ (∀ i (h : i < xs.length), i < k → (xs[i].Name.size : Int) ≤ left) ∧ Below w.heap.size w wr) (fun _ i wr => xs.length - (intOf i).toNat)
    case atStart => exact ⟨0, _, by omega, rfl, rfl, by omega, by omega, fun i _ h0 => absurd h0 (by omega), (by repeat (first | (with_reducible assumption) | (with_reducible exact Below.refl _ _) | (with_reducible refine Bel.alloc ?_ _) | (with_reducible refine Below.drew ?_) | (with_reducible refine Bel.drewN ?_ _) | (with_reducible refine Bel.setCell ?_ (by (try simp) <;> omega) _) | (with_reducible refine Bel.trans ?_ (by assumption))))⟩
    case round =>
      obtain ⟨k, r, hk, rfl, rfl, hr0, hr1, hall, hbel⟩ := hrel
      have HA := Lib.hid hall
      clear hall
      by_cases hlt : k < xs.length
      · obtain ⟨b, o, rfl, hc⟩ := H.out (by omega)
        have hb := hc.1
        obtain ⟨e0, e1⟩ := SSetting.arg (hc.below hbel hb) hlt
        clear hc H
        go_wp2_with (go_at_call 41; refine (szSetting_any xs[k] r _ (HF.out k hlt) (by omega) (by omega)).mono ?_; rintro e w1 ⟨⟨r1, rfl, hr2, hr3, hr4⟩, hb1⟩)
        · go_ret
          exact ⟨⟨_, rfl, by omega, by omega, by omega⟩, Bel.trans hbel hb1⟩
        · go_roundw
          case rel => exact ⟨k + 1, r1, by omega, by go_num, rfl, by omega, by omega, fun i hi hik => by by_cases e : i = k; (subst e; have := hr4 (by omega); omega); exact HA.out i hi (by omega), Bel.trans hbel hb1⟩
          case measure => simp [intOf]; omega
      · obtain rfl : k = xs.length := by omega
        go_wp2
        go_ret
        exact ⟨⟨_, rfl, by omega, by omega, fun _ => ⟨by omega, fun i hi => HA.out i hi hi⟩⟩, hbel⟩
theorem eqSetting_any (x : SSetting) (w : World) : Calls Try.prog 44 #[.agg #[.string x.Name, .int .i64 x.Val], .agg #[.string x.Name, .int .i64 x.Val]] w fun e w' => e = .returned (.bool true) ∧ Below w.heap.size w w' := by
  go_enter Try.func44, Try.ntmps44
  go_wp2
  go_ret
  exact ⟨rfl, (by repeat (first | (with_reducible assumption) | (with_reducible exact Below.refl _ _) | (with_reducible refine Bel.alloc ?_ _) | (with_reducible refine Below.drew ?_) | (with_reducible refine Bel.drewN ?_ _) | (with_reducible refine Bel.setCell ?_ (by (try simp) <;> omega) _) | (with_reducible refine Bel.trans ?_ (by assumption))))⟩
theorem eqSettingS_any (b1 c1 b2 c2 : Nat) (xs : List SSetting) (w : World) (A1 : Arr SSetting.cells 2 w b1 xs) (A2 : Arr SSetting.cells 2 w b2 xs) (hn : xs.length ≤ 1048576) :
    Calls Try.prog 37 #[.slice (some ⟨b1, 0, none⟩) xs.length c1, .slice (some ⟨b2, 0, none⟩) xs.length c2] w fun e w' => e = .returned (.bool true) ∧ Below w.heap.size w w' := by
  go_enter Try.func37, Try.ntmps37
  go_wp2_with fail
  go_loopw [5] (fun i wr => ∃ k : Nat, k ≤ xs.length ∧ i = .int .i64 k ∧ Below w.heap.size w wr) (fun i wr => xs.length - (intOf i).toNat)
  case atStart => exact ⟨0, by omega, rfl, (by repeat (first | (with_reducible assumption) | (with_reducible exact Below.refl _ _) | (with_reducible refine Bel.alloc ?_ _) | (with_reducible refine Below.drew ?_) | (with_reducible refine Bel.drewN ?_ _) | (with_reducible refine Bel.setCell ?_ (by (try simp) <;> omega) _) | (with_reducible refine Bel.trans ?_ (by assumption))))⟩
  case round =>
    obtain ⟨k, hk, rfl, hbel⟩ := hrel
    by_cases hlt : k < xs.length
    · obtain ⟨p0, p1⟩ := SSetting.elems (A1.below hbel) hlt
      obtain ⟨q0, q1⟩ := SSetting.elems (A2.below hbel) hlt
      go_wp2_with fail
      refine wp_region_past (by kernel_rfl) (by kernel_rfl) ?_
      repeat (go_big_quiet_step ((go_at_call 44; exact Past.call _ (eqSetting_any xs[k] _))))
      refine wpQuiet_nil ?_
      intro W1 hw'
      obtain ⟨⟨W_, hb1⟩, hw''⟩ := hw'
      subst hw''
      go_wp2
      go_roundw
      case rel => exact ⟨k + 1, by omega, by go_num, Bel.trans hbel hb1⟩
      case measure => simp [intOf]; omega
    · obtain rfl : k = xs.length := by omega
      go_wp2
      go_ret
      exact ⟨rfl, hbel⟩
end Go.Proofs.Ytfbnckgfgaddkaa
