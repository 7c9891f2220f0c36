/- The helpers of the laws package for the type Group (sizes, copies, comparisons) do what they say. No condition beyond the theorems own. -/
import Derived.Test.YtfbnckgfgaddkaaChecked
import Derived.Test.YtfbnckgfgaddkaaApp
import Derived.Test.YtfbnckgfgaddkaaLTMark
namespace Go.Proofs.Ytfbnckgfgaddkaa
set_option linter.unusedSimpArgs false
set_option linter.unusedVariables false
open Go.RowKit
set_option maxHeartbeats 400000
theorem toGroup_any (x : SGroup) (w : World) : Calls Try.prog 12 #[.agg #[.string x.Id, .int .i64 x.People, .int .i64 x.Guides, .int .i64 x.Beacons, .int .i64 x.Shovels, .int .i64 x.Probes, .int .i64 x.Skill]] w fun e w' => e = .returned (.agg #[.string x.Id, .int .i64 x.People, .int .i64 x.Guides, .int .i64 x.Beacons, .int .i64 x.Shovels, .int .i64 x.Probes, .int .i64 x.Skill]) ∧ Below w.heap.size w w' := by
  go_enter Try.func12, Try.ntmps12
  go_wp2
  exact bodyPost_ret (v := .agg #[.string x.Id, .int .i64 x.People, .int .i64 x.Guides, .int .i64 x.Beacons, .int .i64 x.Shovels, .int .i64 x.Probes, .int .i64 x.Skill]) (by simp [results, Try.results12, go_sem]) rfl ⟨rfl, (by repeat (first | (with_reducible assumption) | (with_reducible exact Below.refl _ _) | (with_reducible refine Bel.alloc ?_ _) | (with_reducible refine Below.drew ?_) | (with_reducible refine Bel.drewN ?_ _) | (with_reducible refine Bel.setCell ?_ (by (try simp) <;> omega) _) | (with_reducible refine Bel.trans ?_ (by assumption))))⟩
theorem szGroup_any (x : SGroup) (left : Int) (w : World) (hf : x.Id.size ≤ 9223372036854775807) (h0 : 0 ≤ left) (h1 : left ≤ 1048576) :
    Calls Try.prog 10 #[.agg #[.string x.Id, .int .i64 x.People, .int .i64 x.Guides, .int .i64 x.Beacons, .int .i64 x.Shovels, .int .i64 x.Probes, .int .i64 x.Skill], .int .i64 left] w fun e w' => (∃ r : Int, e = .returned (.int .i64 r) ∧ -1 ≤ r ∧ r ≤ left ∧ (0 ≤ r → (x.Id.size : Int) ≤ left)) ∧ Below w.heap.size w w' := by
  go_enter Try.func10, Try.ntmps10
  go_wp2
  all_goals
    go_ret
    exact ⟨⟨_, rfl, by omega, by omega, by omega⟩, (by repeat (first | (with_reducible assumption) | (with_reducible exact Below.refl _ _) | (with_reducible refine Bel.alloc ?_ _) | (with_reducible refine Below.drew ?_) | (with_reducible refine Bel.drewN ?_ _) | (with_reducible refine Bel.setCell ?_ (by (try simp) <;> omega) _) | (with_reducible refine Bel.trans ?_ (by assumption))))⟩
theorem markGroupS_any (g c : Nat) (xs : List SGroup) (k : Int) (w : World) (O : Own SGroup.cells 7 35 w g xs) (hn : xs.length ≤ 1048576) (hk0 : 0 ≤ k) (hk1 : k ≤ 100000000) :
    Calls Try.prog 15 #[.slice (some ⟨g, 0, none⟩) xs.length c, .int .i64 k] w fun e w' => e = .returned (.int .i64 (k + 7 * xs.length)) ∧ w.grownBy w' (some g) := by
  obtain ⟨arr, hh, hsz, _⟩ := O
  have HH : Hid (Box 35 w g arr) := hh
  clear hh
  go_enter Try.func15, Try.ntmps15
  go_wp2_with fail
  go_loopw [1, 5] (fun kk i wr => ∃ (j : Nat) (cur : Array Value), j ≤ xs.length ∧ i = .int .i64 j ∧ kk = .int .i64 (k + 7 * j) ∧ w.grownBy wr (some g) ∧ Box 35 wr g cur ∧ cur.size = xs.length * 7) (fun _ i wr => xs.length - (intOf i).toNat)
  case atStart => exact ⟨0, arr, by omega, rfl, by simp, World.grownBy.refl _ _, HH.out, hsz⟩
  case round =>
    obtain ⟨j, cur, hj, rfl, rfl, hgr, B, hcs⟩ := hrel
    have HG := Lib.hid hgr
    clear hgr
    by_cases hlt : j < xs.length
    · have hc0 : j * 7 < cur.size := by omega
      have c0 : wr.cell? ⟨g, j * 7, none⟩ = some cur[j * 7] := (B.cell (j * 7)).trans (Array.getElem?_eq_getElem hc0)
      have z0 : wr.frozen? ⟨g, j * 7, none⟩ = false := B.free (j * 7)
      have hc1 : j * 7 + 1 < cur.size := by omega
      have c1 : wr.cell? ⟨g, j * 7 + 1, none⟩ = some cur[j * 7 + 1] := (B.cell (j * 7 + 1)).trans (Array.getElem?_eq_getElem hc1)
      have z1 : wr.frozen? ⟨g, j * 7 + 1, none⟩ = false := B.free (j * 7 + 1)
      have hc2 : j * 7 + 2 < cur.size := by omega
      have c2 : wr.cell? ⟨g, j * 7 + 2, none⟩ = some cur[j * 7 + 2] := (B.cell (j * 7 + 2)).trans (Array.getElem?_eq_getElem hc2)
      have z2 : wr.frozen? ⟨g, j * 7 + 2, none⟩ = false := B.free (j * 7 + 2)
      have hc3 : j * 7 + 3 < cur.size := by omega
      have c3 : wr.cell? ⟨g, j * 7 + 3, none⟩ = some cur[j * 7 + 3] := (B.cell (j * 7 + 3)).trans (Array.getElem?_eq_getElem hc3)
      have z3 : wr.frozen? ⟨g, j * 7 + 3, none⟩ = false := B.free (j * 7 + 3)
      have hc4 : j * 7 + 4 < cur.size := by omega
      have c4 : wr.cell? ⟨g, j * 7 + 4, none⟩ = some cur[j * 7 + 4] := (B.cell (j * 7 + 4)).trans (Array.getElem?_eq_getElem hc4)
      have z4 : wr.frozen? ⟨g, j * 7 + 4, none⟩ = false := B.free (j * 7 + 4)
      have hc5 : j * 7 + 5 < cur.size := by omega
      have c5 : wr.cell? ⟨g, j * 7 + 5, none⟩ = some cur[j * 7 + 5] := (B.cell (j * 7 + 5)).trans (Array.getElem?_eq_getElem hc5)
      have z5 : wr.frozen? ⟨g, j * 7 + 5, none⟩ = false := B.free (j * 7 + 5)
      have hc6 : j * 7 + 6 < cur.size := by omega
      have c6 : wr.cell? ⟨g, j * 7 + 6, none⟩ = some cur[j * 7 + 6] := (B.cell (j * 7 + 6)).trans (Array.getElem?_eq_getElem hc6)
      have z6 : wr.frozen? ⟨g, j * 7 + 6, none⟩ = false := B.free (j * 7 + 6)
      have HB := Lib.hid B
      have HS := Lib.hid hcs
      clear B hcs
      go_wp2_with (go_at_call 30; refine (markText_any _ _ (by omega) (by omega)).mono ?_; rintro e w2 ⟨⟨s2, rfl⟩, hb2⟩; have hpl := HB.out.lt; have c0 := (hb2.cell (p := ⟨g, j * 7, none⟩) hpl).trans c0; have z0 := (hb2.frozen (p := ⟨g, j * 7, none⟩) hpl).trans z0; have c1 := (hb2.cell (p := ⟨g, j * 7 + 1, none⟩) hpl).trans c1; have z1 := (hb2.frozen (p := ⟨g, j * 7 + 1, none⟩) hpl).trans z1; have c2 := (hb2.cell (p := ⟨g, j * 7 + 2, none⟩) hpl).trans c2; have z2 := (hb2.frozen (p := ⟨g, j * 7 + 2, none⟩) hpl).trans z2; have c3 := (hb2.cell (p := ⟨g, j * 7 + 3, none⟩) hpl).trans c3; have z3 := (hb2.frozen (p := ⟨g, j * 7 + 3, none⟩) hpl).trans z3; have c4 := (hb2.cell (p := ⟨g, j * 7 + 4, none⟩) hpl).trans c4; have z4 := (hb2.frozen (p := ⟨g, j * 7 + 4, none⟩) hpl).trans z4; have c5 := (hb2.cell (p := ⟨g, j * 7 + 5, none⟩) hpl).trans c5; have z5 := (hb2.frozen (p := ⟨g, j * 7 + 5, none⟩) hpl).trans z5; have c6 := (hb2.cell (p := ⟨g, j * 7 + 6, none⟩) hpl).trans c6; have z6 := (hb2.frozen (p := ⟨g, j * 7 + 6, none⟩) hpl).trans z6)
      go_roundw
      case rel => exact ⟨j + 1, _, by omega, by go_num, by go_num, (only_set (only_set (only_set (only_set (only_set (only_set (only_set (HG.out.trans (grown_of_below hb2 _)) rfl _) rfl _) rfl _) rfl _) rfl _) rfl _) rfl _), ((((((((HB.out.below hb2).set (j * 7) _).set (j * 7 + 1) _).set (j * 7 + 2) _).set (j * 7 + 3) _).set (j * 7 + 4) _).set (j * 7 + 5) _).set (j * 7 + 6) _), by simpa using HS.out⟩
      case measure => simp [intOf]; omega
    · obtain rfl : j = xs.length := by omega
      go_wp2
      go_ret
      exact ⟨rfl, HG.out⟩
theorem eqGroup_any (x : SGroup) (w : World) : Calls Try.prog 29 #[.agg #[.string x.Id, .int .i64 x.People, .int .i64 x.Guides, .int .i64 x.Beacons, .int .i64 x.Shovels, .int .i64 x.Probes, .int .i64 x.Skill], .agg #[.string x.Id, .int .i64 x.People, .int .i64 x.Guides, .int .i64 x.Beacons, .int .i64 x.Shovels, .int .i64 x.Probes, .int .i64 x.Skill]] w fun e w' => e = .returned (.bool true) ∧ Below w.heap.size w w' := by
  go_enter Try.func29, Try.ntmps29
  go_wp2
  go_ret
  exact ⟨rfl, (by repeat (first | (with_reducible assumption) | (with_reducible exact Below.refl _ _) | (with_reducible refine Bel.alloc ?_ _) | (with_reducible refine Below.drew ?_) | (with_reducible refine Bel.drewN ?_ _) | (with_reducible refine Bel.setCell ?_ (by (try simp) <;> omega) _) | (with_reducible refine Bel.trans ?_ (by assumption))))⟩
theorem eqGroupS_any (b1 c1 b2 c2 : Nat) (xs : List SGroup) (w : World) (A1 : Arr SGroup.cells 7 w b1 xs) (A2 : Arr SGroup.cells 7 w b2 xs) (hn : xs.length ≤ 1048576) :
    Calls Try.prog 14 #[.slice (some ⟨b1, 0, none⟩) xs.length c1, .slice (some ⟨b2, 0, none⟩) xs.length c2] w fun e w' => e = .returned (.bool true) ∧ Below w.heap.size w w' := by
  go_enter Try.func14, Try.ntmps14
  go_wp2_with fail
  go_loopw [5] (fun i wr => ∃ k : Nat, k ≤ xs.length ∧ i = .int .i64 k ∧ Below w.heap.size w wr) (fun i wr => xs.length - (intOf i).toNat)
  case atStart => exact ⟨0, by omega, rfl, (by repeat (first | (with_reducible assumption) | (with_reducible exact Below.refl _ _) | (with_reducible refine Bel.alloc ?_ _) | (with_reducible refine Below.drew ?_) | (with_reducible refine Bel.drewN ?_ _) | (with_reducible refine Bel.setCell ?_ (by (try simp) <;> omega) _) | (with_reducible refine Bel.trans ?_ (by assumption))))⟩
  case round =>
    obtain ⟨k, hk, rfl, hbel⟩ := hrel
    by_cases hlt : k < xs.length
    · obtain ⟨p0, p1, p2, p3, p4, p5, p6⟩ := SGroup.elems (A1.below hbel) hlt
      obtain ⟨q0, q1, q2, q3, q4, q5, q6⟩ := SGroup.elems (A2.below hbel) hlt
      go_wp2_with fail
      refine wp_region_past (by kernel_rfl) (by kernel_rfl) ?_
      repeat (go_big_quiet_step ((go_at_call 29; exact Past.call _ (eqGroup_any xs[k] _))))
      refine wpQuiet_nil ?_
      intro W1 hw'
      obtain ⟨⟨W_, hb1⟩, hw''⟩ := hw'
      subst hw''
      go_wp2
      go_roundw
      case rel => exact ⟨k + 1, by omega, by go_num, Bel.trans hbel hb1⟩
      case measure => simp [intOf]; omega
    · obtain rfl : k = xs.length := by omega
      go_wp2
      go_ret
      exact ⟨rfl, hbel⟩
end Go.Proofs.Ytfbnckgfgaddkaa
