/- The helpers of the laws package for the type Group (sizes, copies, comparisons) do what they say. No condition beyond the theorems own. -/
import Derived.Test.YtinijfdopkohfaaChecked
import Derived.Test.YtinijfdopkohfaaApp
import Derived.Test.YtinijfdopkohfaaLTMark
namespace Go.Proofs.Ytinijfdopkohfaa
set_option linter.unusedSimpArgs false
set_option linter.unusedVariables false
open Go.RowKit
set_option maxHeartbeats 400000
theorem toGroup_any (x : SGroup) (w : World) : Calls Try.prog 18 #[.agg #[.string x.Id, .int .i64 x.People, .int .i64 x.Guides, .int .i64 x.Beacons, .int .i64 x.Shovels, .int .i64 x.Probes, .int .i64 x.Skill]] w fun e w' => e = .returned (.agg #[.string x.Id, .int .i64 x.People, .int .i64 x.Guides, .int .i64 x.Beacons, .int .i64 x.Shovels, .int .i64 x.Probes, .int .i64 x.Skill]) ∧ Below w.heap.size w w' := by
  go_enter Try.func18, Try.ntmps18
  go_wp2
  exact bodyPost_ret (v := .agg #[.string x.Id, .int .i64 x.People, .int .i64 x.Guides, .int .i64 x.Beacons, .int .i64 x.Shovels, .int .i64 x.Probes, .int .i64 x.Skill]) (by simp [results, Try.results18, go_sem]) rfl ⟨rfl, (by repeat (first | (with_reducible assumption) | (with_reducible exact Below.refl _ _) | (with_reducible refine Bel.alloc ?_ _) | (with_reducible refine Below.drew ?_) | (with_reducible refine Bel.drewN ?_ _) | (with_reducible refine Bel.setCell ?_ (by (try simp) <;> omega) _) | (with_reducible refine Bel.trans ?_ (by assumption))))⟩
theorem toGroupS_any (A : Option Addr) (c : Nat) (xs : List SGroup) (w : World) (h : ArgS SGroup.cells 7 w A xs) (hn : xs.length ≤ 1048576) :
    Calls Try.prog 13 #[.slice A xs.length c] w fun e w' => e = .returned (.slice (some ⟨w.heap.size, 0, none⟩) xs.length xs.length) ∧ Below w.heap.size w w' ∧ Own SGroup.cells 7 35 w' w.heap.size xs := by
  have H := Lib.hid h
  clear h
  have hmk := mk_slice (P := Try.prog) 26 35 (.agg #[.string ByteArray.empty, .int .i64 0, .int .i64 0, .int .i64 0, .int .i64 0, .int .i64 0, .int .i64 0]) 7 64 (by kernel_rfl) (by kernel_rfl) (by omega) xs.length hn
  go_enter Try.func13, Try.ntmps13
  go_wp2_with fail
  go_loopw [4] (fun i wr => ∃ k : Nat, k ≤ xs.length ∧ i = .int .i64 k ∧ Below w.heap.size w wr ∧ Part SGroup.cells 7 35 wr w.heap.size xs k) (fun i wr => xs.length - (intOf i).toNat)
  case atStart => exact ⟨0, by omega, rfl, (by repeat (first | (with_reducible assumption) | (with_reducible exact Below.refl _ _) | (with_reducible refine Bel.alloc ?_ _) | (with_reducible refine Below.drew ?_) | (with_reducible refine Bel.drewN ?_ _) | (with_reducible refine Bel.setCell ?_ (by (try simp) <;> omega) _) | (with_reducible refine Bel.trans ?_ (by assumption)))), Part.made _ _ _⟩
  case round =>
    obtain ⟨k, hk, rfl, hbel, hpart⟩ := hrel
    by_cases hlt : k < xs.length
    · obtain ⟨b, o, rfl, hc⟩ := H.out (by omega)
      have hb := hc.1
      obtain ⟨e0, e1, e2, e3, e4, e5, e6⟩ := SGroup.arg (hc.below hbel hb) hlt
      clear hc H
      obtain ⟨u0_, r0, z0⟩ := hpart.room (i := k * 7) (by omega)
      obtain ⟨u1_, r1, z1⟩ := hpart.room (i := k * 7 + 1) (by omega)
      obtain ⟨u2_, r2, z2⟩ := hpart.room (i := k * 7 + 2) (by omega)
      obtain ⟨u3_, r3, z3⟩ := hpart.room (i := k * 7 + 3) (by omega)
      obtain ⟨u4_, r4, z4⟩ := hpart.room (i := k * 7 + 4) (by omega)
      obtain ⟨u5_, r5, z5⟩ := hpart.room (i := k * 7 + 5) (by omega)
      obtain ⟨u6_, r6, z6⟩ := hpart.room (i := k * 7 + 6) (by omega)
      have HP := Lib.hid hpart
      have hpl := hpart.lt
      clear hpart
      go_wp2_with (go_at_call 18; refine (toGroup_any xs[k] _).mono ?_; rintro e w1 ⟨rfl, hb1⟩; have hbt := Bel.trans hbel hb1; have r0 := (hb1.cell (p := ⟨w.heap.size, k * 7, none⟩) hpl).trans r0; have z0 := (hb1.frozen (p := ⟨w.heap.size, k * 7, none⟩) hpl).trans z0; have r1 := (hb1.cell (p := ⟨w.heap.size, k * 7 + 1, none⟩) hpl).trans r1; have z1 := (hb1.frozen (p := ⟨w.heap.size, k * 7 + 1, none⟩) hpl).trans z1; have r2 := (hb1.cell (p := ⟨w.heap.size, k * 7 + 2, none⟩) hpl).trans r2; have z2 := (hb1.frozen (p := ⟨w.heap.size, k * 7 + 2, none⟩) hpl).trans z2; have r3 := (hb1.cell (p := ⟨w.heap.size, k * 7 + 3, none⟩) hpl).trans r3; have z3 := (hb1.frozen (p := ⟨w.heap.size, k * 7 + 3, none⟩) hpl).trans z3; have r4 := (hb1.cell (p := ⟨w.heap.size, k * 7 + 4, none⟩) hpl).trans r4; have z4 := (hb1.frozen (p := ⟨w.heap.size, k * 7 + 4, none⟩) hpl).trans z4; have r5 := (hb1.cell (p := ⟨w.heap.size, k * 7 + 5, none⟩) hpl).trans r5; have z5 := (hb1.frozen (p := ⟨w.heap.size, k * 7 + 5, none⟩) hpl).trans z5; have r6 := (hb1.cell (p := ⟨w.heap.size, k * 7 + 6, none⟩) hpl).trans r6; have z6 := (hb1.frozen (p := ⟨w.heap.size, k * 7 + 6, none⟩) hpl).trans z6)
      go_roundw
      case rel => exact ⟨k + 1, by omega, by go_num, Bel.setAll (Nat.le_refl _) (SGroup.cells xs[k]) (k * 7) hbt, (HP.out.upto hb1 hpl).step hlt (fun _ => rfl)⟩
      case measure => simp [intOf]; omega
    · obtain rfl : k = xs.length := by omega
      have HP := Lib.hid hpart
      clear hpart
      go_wp2
      go_ret
      exact ⟨rfl, hbel, HP.out.own (Nat.le_refl _)⟩
theorem szGroup_any (x : SGroup) (left : Int) (w : World) (hf : x.Id.size ≤ 9223372036854775807) (h0 : 0 ≤ left) (h1 : left ≤ 1048576) :
    Calls Try.prog 16 #[.agg #[.string x.Id, .int .i64 x.People, .int .i64 x.Guides, .int .i64 x.Beacons, .int .i64 x.Shovels, .int .i64 x.Probes, .int .i64 x.Skill], .int .i64 left] w fun e w' => (∃ r : Int, e = .returned (.int .i64 r) ∧ -1 ≤ r ∧ r ≤ left ∧ (0 ≤ r → (x.Id.size : Int) ≤ left)) ∧ Below w.heap.size w w' := by
  go_enter Try.func16, Try.ntmps16
  go_wp2
  all_goals
    go_ret
    exact ⟨⟨_, rfl, by omega, by omega, by omega⟩, (by repeat (first | (with_reducible assumption) | (with_reducible exact Below.refl _ _) | (with_reducible refine Bel.alloc ?_ _) | (with_reducible refine Below.drew ?_) | (with_reducible refine Bel.drewN ?_ _) | (with_reducible refine Bel.setCell ?_ (by (try simp) <;> omega) _) | (with_reducible refine Bel.trans ?_ (by assumption))))⟩
theorem szGroupS_any (A : Option Addr) (c : Nat) (xs : List SGroup) (left : Int) (w : World) (h : ArgS SGroup.cells 7 w A xs) (hf : ∀ i (h : i < xs.length), xs[i].Id.size ≤ 9223372036854775807) (hn : xs.length ≤ 9223372036854775807) (h0 : 0 ≤ left) (h1 : left ≤ 1048576) :
    Calls Try.prog 11 #[.slice A xs.length c, .int .i64 left] w fun e w' => (∃ r : Int, e = .returned (.int .i64 r) ∧ -1 ≤ r ∧ r ≤ left ∧ (0 ≤ r → (xs.length : Int) ≤ left ∧ ∀ i (h : i < xs.length), (xs[i].Id.size : Int) ≤ left)) ∧ Below w.heap.size w w' := by
  have H := Lib.hid h
  clear h
  have HF := Lib.hid hf
  clear hf
  by_cases hb : left < (xs.length : Int)
  · go_enter Try.func11, Try.ntmps11
    go_wp2
    go_ret
    exact ⟨⟨_, rfl, by omega, by omega, by omega⟩, (by repeat (first | (with_reducible assumption) | (with_reducible exact Below.refl _ _) | (with_reducible refine Bel.alloc ?_ _) | (with_reducible refine Below.drew ?_) | (with_reducible refine Bel.drewN ?_ _) | (with_reducible refine Bel.setCell ?_ (by (try simp) <;> omega) _) | (with_reducible refine Bel.trans ?_ (by assumption))))⟩
  · go_enter Try.func11, Try.ntmps11
    go_wp2_with fail
    go_loopw [1, 5] (fun l i wr => ∃ (k : Nat) (r : Int), k ≤ xs.length ∧ i = .int .i64 k ∧ l = .int .i64 r ∧ 0 ≤ r ∧ r ≤ left ∧ (∀ i (h : i < xs.length), i < k → (xs[i].Id.size : Int) ≤ left) ∧ Below w.heap.size w wr) (fun _ i wr => xs.length - (intOf i).toNat)
    case atStart => exact ⟨0, _, by omega, rfl, rfl, by omega, by omega, fun i _ h0 => absurd h0 (by omega), (by repeat (first | (with_reducible assumption) | (with_reducible exact Below.refl _ _) | (with_reducible refine Bel.alloc ?_ _) | (with_reducible refine Below.drew ?_) | (with_reducible refine Bel.drewN ?_ _) | (with_reducible refine Bel.setCell ?_ (by (try simp) <;> omega) _) | (with_reducible refine Bel.trans ?_ (by assumption))))⟩
    case round =>
      obtain ⟨k, r, hk, rfl, rfl, hr0, hr1, hall, hbel⟩ := hrel
      have HA := Lib.hid hall
      clear hall
      by_cases hlt : k < xs.length
      · obtain ⟨b, o, rfl, hc⟩ := H.out (by omega)
        have hb := hc.1
        obtain ⟨e0, e1, e2, e3, e4, e5, e6⟩ := SGroup.arg (hc.below hbel hb) hlt
        clear hc H
        go_wp2_with (go_at_call 16; refine (szGroup_any xs[k] r _ (HF.out k hlt) (by omega) (by omega)).mono ?_; rintro e w1 ⟨⟨r1, rfl, hr2, hr3, hr4⟩, hb1⟩)
        · go_ret
          exact ⟨⟨_, rfl, by omega, by omega, by omega⟩, Bel.trans hbel hb1⟩
        · go_roundw
          case rel => exact ⟨k + 1, r1, by omega, by go_num, rfl, by omega, by omega, fun i hi hik => by by_cases e : i = k; (subst e; have := hr4 (by omega); omega); exact HA.out i hi (by omega), Bel.trans hbel hb1⟩
          case measure => simp [intOf]; omega
      · obtain rfl : k = xs.length := by omega
        go_wp2
        go_ret
        exact ⟨⟨_, rfl, by omega, by omega, fun _ => ⟨by omega, fun i hi => HA.out i hi hi⟩⟩, hbel⟩
theorem markGroupS_any (g c : Nat) (xs : List SGroup) (k : Int) (w : World) (O : Own SGroup.cells 7 35 w g xs) (hn : xs.length ≤ 1048576) (hk0 : 0 ≤ k) (hk1 : k ≤ 100000000) :
    Calls Try.prog 20 #[.slice (some ⟨g, 0, none⟩) xs.length c, .int .i64 k] w fun e w' => e = .returned (.int .i64 (k + 7 * xs.length)) ∧ w.grownBy w' (some g) := by
  obtain ⟨arr, hh, hsz, _⟩ := O
  have HH : Hid (Box 35 w g arr) := hh
  clear hh
  go_enter Try.func20, Try.ntmps20
  go_wp2_with fail
  go_loopw [1, 5] (fun kk i wr => ∃ (j : Nat) (cur : Array Value), j ≤ xs.length ∧ i = .int .i64 j ∧ kk = .int .i64 (k + 7 * j) ∧ w.grownBy wr (some g) ∧ Box 35 wr g cur ∧ cur.size = xs.length * 7) (fun _ i wr => xs.length - (intOf i).toNat)
  case atStart => exact ⟨0, arr, by omega, rfl, by simp, World.grownBy.refl _ _, HH.out, hsz⟩
  case round =>
    obtain ⟨j, cur, hj, rfl, rfl, hgr, B, hcs⟩ := hrel
    have HG := Lib.hid hgr
    clear hgr
    by_cases hlt : j < xs.length
    · have hc0 : j * 7 < cur.size := by omega
      have c0 : wr.cell? ⟨g, j * 7, none⟩ = some cur[j * 7] := (B.cell (j * 7)).trans (Array.getElem?_eq_getElem hc0)
      have z0 : wr.frozen? ⟨g, j * 7, none⟩ = false := B.free (j * 7)
      have hc1 : j * 7 + 1 < cur.size := by omega
      have c1 : wr.cell? ⟨g, j * 7 + 1, none⟩ = some cur[j * 7 + 1] := (B.cell (j * 7 + 1)).trans (Array.getElem?_eq_getElem hc1)
      have z1 : wr.frozen? ⟨g, j * 7 + 1, none⟩ = false := B.free (j * 7 + 1)
      have hc2 : j * 7 + 2 < cur.size := by omega
      have c2 : wr.cell? ⟨g, j * 7 + 2, none⟩ = some cur[j * 7 + 2] := (B.cell (j * 7 + 2)).trans (Array.getElem?_eq_getElem hc2)
      have z2 : wr.frozen? ⟨g, j * 7 + 2, none⟩ = false := B.free (j * 7 + 2)
      have hc3 : j * 7 + 3 < cur.size := by omega
      have c3 : wr.cell? ⟨g, j * 7 + 3, none⟩ = some cur[j * 7 + 3] := (B.cell (j * 7 + 3)).trans (Array.getElem?_eq_getElem hc3)
      have z3 : wr.frozen? ⟨g, j * 7 + 3, none⟩ = false := B.free (j * 7 + 3)
      have hc4 : j * 7 + 4 < cur.size := by omega
      have c4 : wr.cell? ⟨g, j * 7 + 4, none⟩ = some cur[j * 7 + 4] := (B.cell (j * 7 + 4)).trans (Array.getElem?_eq_getElem hc4)
      have z4 : wr.frozen? ⟨g, j * 7 + 4, none⟩ = false := B.free (j * 7 + 4)
      have hc5 : j * 7 + 5 < cur.size := by omega
      have c5 : wr.cell? ⟨g, j * 7 + 5, none⟩ = some cur[j * 7 + 5] := (B.cell (j * 7 + 5)).trans (Array.getElem?_eq_getElem hc5)
      have z5 : wr.frozen? ⟨g, j * 7 + 5, none⟩ = false := B.free (j * 7 + 5)
      have hc6 : j * 7 + 6 < cur.size := by omega
      have c6 : wr.cell? ⟨g, j * 7 + 6, none⟩ = some cur[j * 7 + 6] := (B.cell (j * 7 + 6)).trans (Array.getElem?_eq_getElem hc6)
      have z6 : wr.frozen? ⟨g, j * 7 + 6, none⟩ = false := B.free (j * 7 + 6)
      have HB := Lib.hid B
      have HS := Lib.hid hcs
      clear B hcs
      go_wp2_with (go_at_call 58; refine (markText_any _ _ (by omega) (by omega)).mono ?_; rintro e w2 ⟨⟨s2, rfl⟩, hb2⟩; have hpl := HB.out.lt; have c0 := (hb2.cell (p := ⟨g, j * 7, none⟩) hpl).trans c0; have z0 := (hb2.frozen (p := ⟨g, j * 7, none⟩) hpl).trans z0; have c1 := (hb2.cell (p := ⟨g, j * 7 + 1, none⟩) hpl).trans c1; have z1 := (hb2.frozen (p := ⟨g, j * 7 + 1, none⟩) hpl).trans z1; have c2 := (hb2.cell (p := ⟨g, j * 7 + 2, none⟩) hpl).trans c2; have z2 := (hb2.frozen (p := ⟨g, j * 7 + 2, none⟩) hpl).trans z2; have c3 := (hb2.cell (p := ⟨g, j * 7 + 3, none⟩) hpl).trans c3; have z3 := (hb2.frozen (p := ⟨g, j * 7 + 3, none⟩) hpl).trans z3; have c4 := (hb2.cell (p := ⟨g, j * 7 + 4, none⟩) hpl).trans c4; have z4 := (hb2.frozen (p := ⟨g, j * 7 + 4, none⟩) hpl).trans z4; have c5 := (hb2.cell (p := ⟨g, j * 7 + 5, none⟩) hpl).trans c5; have z5 := (hb2.frozen (p := ⟨g, j * 7 + 5, none⟩) hpl).trans z5; have c6 := (hb2.cell (p := ⟨g, j * 7 + 6, none⟩) hpl).trans c6; have z6 := (hb2.frozen (p := ⟨g, j * 7 + 6, none⟩) hpl).trans z6)
      go_roundw
      case rel => exact ⟨j + 1, _, by omega, by go_num, by go_num, (only_set (only_set (only_set (only_set (only_set (only_set (only_set (HG.out.trans (grown_of_below hb2 _)) rfl _) rfl _) rfl _) rfl _) rfl _) rfl _) rfl _), ((((((((HB.out.below hb2).set (j * 7) _).set (j * 7 + 1) _).set (j * 7 + 2) _).set (j * 7 + 3) _).set (j * 7 + 4) _).set (j * 7 + 5) _).set (j * 7 + 6) _), by simpa using HS.out⟩
      case measure => simp [intOf]; omega
    · obtain rfl : j = xs.length := by omega
      go_wp2
      go_ret
      exact ⟨rfl, HG.out⟩
theorem eqGroup_any (x : SGroup) (w : World) : Calls Try.prog 51 #[.agg #[.string x.Id, .int .i64 x.People, .int .i64 x.Guides, .int .i64 x.Beacons, .int .i64 x.Shovels, .int .i64 x.Probes, .int .i64 x.Skill], .agg #[.string x.Id, .int .i64 x.People, .int .i64 x.Guides, .int .i64 x.Beacons, .int .i64 x.Shovels, .int .i64 x.Probes, .int .i64 x.Skill]] w fun e w' => e = .returned (.bool true) ∧ Below w.heap.size w w' := by
  go_enter Try.func51, Try.ntmps51
  go_wp2
  go_ret
  exact ⟨rfl, (by repeat (first | (with_reducible assumption) | (with_reducible exact Below.refl _ _) | (with_reducible refine Bel.alloc ?_ _) | (with_reducible refine Below.drew ?_) | (with_reducible refine Bel.drewN ?_ _) | (with_reducible refine Bel.setCell ?_ (by (try simp) <;> omega) _) | (with_reducible refine Bel.trans ?_ (by assumption))))⟩
theorem eqGroupS_any (b1 c1 b2 c2 : Nat) (xs : List SGroup) (w : World) (A1 : Arr SGroup.cells 7 w b1 xs) (A2 : Arr SGroup.cells 7 w b2 xs) (hn : xs.length ≤ 1048576) :
    Calls Try.prog 15 #[.slice (some ⟨b1, 0, none⟩) xs.length c1, .slice (some ⟨b2, 0, none⟩) xs.length c2] w fun e w' => e = .returned (.bool true) ∧ Below w.heap.size w w' := by
  go_enter Try.func15, Try.ntmps15
  go_wp2_with fail
  go_loopw [5] (fun i wr => ∃ k : Nat, k ≤ xs.length ∧ i = .int .i64 k ∧ Below w.heap.size w wr) (fun i wr => xs.length - (intOf i).toNat)
  case atStart => exact ⟨0, by omega, rfl, (by repeat (first | (with_reducible assumption) | (with_reducible exact Below.refl _ _) | (with_reducible refine Bel.alloc ?_ _) | (with_reducible refine Below.drew ?_) | (with_reducible refine Bel.drewN ?_ _) | (with_reducible refine Bel.setCell ?_ (by (try simp) <;> omega) _) | (with_reducible refine Bel.trans ?_ (by assumption))))⟩
  case round =>
    obtain ⟨k, hk, rfl, hbel⟩ := hrel
    by_cases hlt : k < xs.length
    · obtain ⟨p0, p1, p2, p3, p4, p5, p6⟩ := SGroup.elems (A1.below hbel) hlt
      obtain ⟨q0, q1, q2, q3, q4, q5, q6⟩ := SGroup.elems (A2.below hbel) hlt
      go_wp2_with fail
      refine wp_region_past (by kernel_rfl) (by kernel_rfl) ?_
      repeat (go_big_quiet_step ((go_at_call 51; exact Past.call _ (eqGroup_any xs[k] _))))
      refine wpQuiet_nil ?_
      intro W1 hw'
      obtain ⟨⟨W_, hb1⟩, hw''⟩ := hw'
      subst hw''
      go_wp2
      go_roundw
      case rel => exact ⟨k + 1, by omega, by go_num, Bel.trans hbel hb1⟩
      case measure => simp [intOf]; omega
    · obtain rfl : k = xs.length := by omega
      go_wp2
      go_ret
      exact ⟨rfl, hbel⟩
end Go.Proofs.Ytinijfdopkohfaa
