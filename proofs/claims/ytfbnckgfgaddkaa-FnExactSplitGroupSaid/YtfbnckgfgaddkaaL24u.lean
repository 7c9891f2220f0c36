/- Chapter 24: a group is divided: the reference's walk. -/
import Derived.Test.YtfbnckgfgaddkaaL24s
import Derived.Test.YtfbnckgfgaddkaaL24t
namespace Go.Proofs.Ytfbnckgfgaddkaa
set_option linter.unusedSimpArgs false
set_option linter.unusedVariables false
open Go.RowKit
set_option maxHeartbeats 1600000
set_option maxRecDepth 100000
theorem Row.ofBox' {α : Type} {cs : α → List Value} {sz : Nat} {t : TypeId} {w : World} {base g : Nat} (B : Box t w g #[]) (h : base ≤ g) : Row cs sz t w base (.slice (some ⟨g, 0, none⟩) 0 0) ([] : List α) :=
  ⟨by simp, Or.inr ⟨g, 0, #[], rfl, h, B, Nat.le_refl _, Nat.zero_le _, by simp, by simp⟩⟩
theorem cvB_run (Y : World) (g k : Nat) (hk : k ≤ 100) (hc : Y.cell? ⟨g, 0, none⟩ = some (.int .u8 (97 + (k : Int)))) :
    (convert 54 9 (.slice (some ⟨g, 0, none⟩) 1 1)).run Try.prog Y = .ok (.string (letterS k)) Y := by
  have hl : (UInt8.ofNat (97 + k)).toNat = 97 + k := letter_nat hk
  have := run_convert_bytes_back (P := Try.prog) Y 54 9 5 ⟨g, 0, none⟩ 1 [UInt8.ofNat (97 + k)] Try.underlying54 Try.underlying5 Try.underlying9 (fun i hi => by
    have : i = 0 := by simpa using hi
    subst this
    simp only [List.getElem_cons_zero, hl]
    exact hc)
  simp only [List.length_singleton] at this
  exact this
theorem l24Share_bel (n m : Int) (k : Nat) (w : World) (h0 : 0 ≤ n) (h1 : n ≤ 30) (hk : k ≤ 3) (hm : 2 ≤ m) (hm4 : m ≤ 4) :
    Calls Try.prog 26 #[.int .i64 n, .int .i64 k, .int .i64 m] w fun e w' => e = .returned (.int .i64 (shr n k m)) ∧ Below w.heap.size w w' :=
  (l24Share_any n m k w h0 h1 hk hm hm4).mono fun _ _ ⟨he, j, hj⟩ => ⟨he, hj ▸ Bel.drewN (Below.refl _ _) j⟩
theorem in_min {m p : Int} : inr 2 (min p 4) m = (inr 2 4 m && !decide (p < m)) := by
  rw [Bool.eq_iff_iff]
  simp [inr]
  omega
theorem sSplitGroup_any (x : SGroup) (m : Int) (w : World) (hs' : x.Id.size ≤ 9223372036854775807) :
    Calls Try.prog 11 #[.agg #[.string x.Id, .int .i64 x.People, .int .i64 x.Guides, .int .i64 x.Beacons, .int .i64 x.Shovels, .int .i64 x.Probes, .int .i64 x.Skill], .int .i64 m] w fun e w' => (∃ v, e = .returned (.tuple #[v, .int .i64 (spRes x m).2]) ∧ Row SGroup.cells 7 35 w' w.heap.size v (spRes x m).1) ∧ Below w.heap.size w w' := by
  go_enter Try.func11, Try.ntmps11
  go_wp2_with fail
  refine calls_box_out ?_
  intro W hbw B1
  have c0 : W.cell? ⟨w.heap.size, 0, none⟩ = some (.string x.Id) := B1.cell 0
  have c1 : W.cell? ⟨w.heap.size, 1, none⟩ = some (.int .i64 x.People) := B1.cell 1
  have c2 : W.cell? ⟨w.heap.size, 2, none⟩ = some (.int .i64 x.Guides) := B1.cell 2
  have c3 : W.cell? ⟨w.heap.size, 3, none⟩ = some (.int .i64 x.Beacons) := B1.cell 3
  have c4 : W.cell? ⟨w.heap.size, 4, none⟩ = some (.int .i64 x.Shovels) := B1.cell 4
  have c5 : W.cell? ⟨w.heap.size, 5, none⟩ = some (.int .i64 x.Probes) := B1.cell 5
  have c6 : W.cell? ⟨w.heap.size, 6, none⟩ = some (.int .i64 x.Skill) := B1.cell 6
  refine (l24One_any x w.heap.size 0 W c0 c1 c2 c3 c4 c5 c6 hs').mono ?_
  rintro e w1 ⟨rfl, hb1⟩
  have B1 := B1.below hb1
  have hbw := Bel.trans hbw hb1
  have hl1 := B1.lt
  clear c0 c1 c2 c3 c4 c5 c6 hb1
  cases hv : okGroup x
  · have HV := Lib.hid hv
    clear hv
    go_wp2
    go_ret2
    rw [spRes_1 HV.out]
    exact ⟨⟨_, rfl, Row.nil⟩, hbw⟩
  have hbd := okGroup_bd hv
  have hs : x.Id.size ≤ 10 := okGroup_size hv
  have HV := Lib.hid hv
  clear hv
  have HB1 := Lib.hid B1
  have c0 : w1.cell? ⟨w.heap.size, 0, none⟩ = some (.string x.Id) := B1.cell 0
  have c1 : w1.cell? ⟨w.heap.size, 1, none⟩ = some (.int .i64 x.People) := B1.cell 1
  have c2 : w1.cell? ⟨w.heap.size, 2, none⟩ = some (.int .i64 x.Guides) := B1.cell 2
  have c3 : w1.cell? ⟨w.heap.size, 3, none⟩ = some (.int .i64 x.Beacons) := B1.cell 3
  have c4 : w1.cell? ⟨w.heap.size, 4, none⟩ = some (.int .i64 x.Shovels) := B1.cell 4
  have c5 : w1.cell? ⟨w.heap.size, 5, none⟩ = some (.int .i64 x.Probes) := B1.cell 5
  have c6 : w1.cell? ⟨w.heap.size, 6, none⟩ = some (.int .i64 x.Skill) := B1.cell 6
  clear B1
  cases hq1 : inr 2 4 m
  · have HQ := Lib.hid (show inr 2 (min x.People 4) m = false by rw [in_min, hq1]; rfl)
    have HQ1 := Lib.hid hq1
    clear hq1
    go_wp2_with (go_at_call 25; refine (Calls.boolIs HQ1.out (l00In_any _ _ _ _)).mono ?_; rintro e w' ⟨rfl, rfl⟩)
    go_ret2
    rw [spRes_2 HV.out HQ.out]
    exact ⟨⟨_, rfl, Row.nil⟩, hbw⟩
  by_cases hgt : x.People < m
  · have HQ := Lib.hid (show inr 2 (min x.People 4) m = false by rw [in_min, hq1, decide_eq_true hgt]; rfl)
    have HQ1 := Lib.hid hq1
    clear hq1
    go_wp2_with (go_at_call 25; refine (Calls.boolIs HQ1.out (l00In_any _ _ _ _)).mono ?_; rintro e w' ⟨rfl, rfl⟩)
    go_ret2
    rw [spRes_2 HV.out HQ.out]
    exact ⟨⟨_, rfl, Row.nil⟩, hbw⟩
  have HQ2 := Lib.hid (show inr 2 (min x.People 4) m = true by rw [in_min, hq1, decide_eq_false hgt]; rfl)
  obtain ⟨hm2, hm4⟩ := inr_bd' hq1
  obtain ⟨n, rfl⟩ := Int.eq_ofNat_of_zero_le (show 0 ≤ m by omega)
  have hn4 : n ≤ 4 := by omega
  have HQ1 := Lib.hid hq1
  clear hq1
  go_wp2_with (go_at_call 25; refine (Calls.boolIs HQ1.out (l00In_any _ _ _ _)).mono ?_; rintro e w' ⟨rfl, rfl⟩)
  clear c0 c1 c2 c3 c4 c5 c6 hgt
  refine wp_box_out ?_
  intro W0 hb0 B0
  have R0 : Row SGroup.cells 7 35 W0 w1.heap.size (.slice (some ⟨w1.heap.size, 0, none⟩) 0 0) [] := Row.ofBox' B0 (Nat.le_refl _)
  have HR0 := Lib.hid R0
  clear R0 B0
  go_loopw [6, 7, 8] (fun v i _ wr => ∃ k : Nat, k ≤ n ∧ i = .int .i64 k ∧ Row SGroup.cells 7 35 wr w1.heap.size v (spL x n k) ∧ okTo x n k = true ∧ Below w1.heap.size w1 wr) (fun _ i _ wr => n - (intOf i).toNat)
  case atStart => exact ⟨0, by omega, rfl, HR0.out, rfl, hb0⟩
  case round =>
    clear HR0 hb0
    obtain ⟨k, hk, rfl, R, hok, hb⟩ := hrel
    have HOK := Lib.hid hok
    have HR := Lib.hid R
    clear hok R
    by_cases hlt : k < n
    · have hk3 : k ≤ 3 := by omega
      have hu8 : IntKind.u8.wrap (97 + (k : Int)) = 97 + (k : Int) := by rw [IntKind.wrap_u8]; omega
      have hls : (letterS k).size ≤ 1 := by rw [letterS_size]; exact Nat.le_refl _
      have hcv := cvB_run (wr.alloc (.cells #[.int .u8 (97 + (k : Int))] 5)) wr.heap.size k (by omega) ((Box.new wr 5 #[.int .u8 (97 + (k : Int))]).cell 0)
      have B1 := HB1.out.below hb
      have c0 : wr.cell? ⟨w.heap.size, 0, none⟩ = some (.string x.Id) := B1.cell 0
      have c1 : wr.cell? ⟨w.heap.size, 1, none⟩ = some (.int .i64 x.People) := B1.cell 1
      have c2 : wr.cell? ⟨w.heap.size, 2, none⟩ = some (.int .i64 x.Guides) := B1.cell 2
      have c3 : wr.cell? ⟨w.heap.size, 3, none⟩ = some (.int .i64 x.Beacons) := B1.cell 3
      have c4 : wr.cell? ⟨w.heap.size, 4, none⟩ = some (.int .i64 x.Shovels) := B1.cell 4
      have c5 : wr.cell? ⟨w.heap.size, 5, none⟩ = some (.int .i64 x.Probes) := B1.cell 5
      have c6 : wr.cell? ⟨w.heap.size, 6, none⟩ = some (.int .i64 x.Skill) := B1.cell 6
      have c6' := (B1.alloc (.cells #[.int .u8 (97 + (k : Int))] 5)).cell 6
      clear B1
      go_upto_region 10 with fail
      refine wp_box_out2 ?_
      intro W1 hb1 BL BP
      clear BL hcv c0 c1 c2 c3 c4 c5 c6 c6'
      have hbW := Bel.trans hb hb1
      have B1 := HB1.out.below hbW
      have hg : w.heap.size ≠ wr.heap.size + 1 := by have := hb.size; omega
      have hgw : wr.heap.size ≤ (⟨wr.heap.size + 1, 0, none⟩ : Addr).block := by simp
      have c0 : W1.cell? ⟨w.heap.size, 0, none⟩ = some (.string x.Id) := B1.cell 0
      have c1 : W1.cell? ⟨w.heap.size, 1, none⟩ = some (.int .i64 x.People) := B1.cell 1
      have c2 : W1.cell? ⟨w.heap.size, 2, none⟩ = some (.int .i64 x.Guides) := B1.cell 2
      have c3 : W1.cell? ⟨w.heap.size, 3, none⟩ = some (.int .i64 x.Beacons) := B1.cell 3
      have c4 : W1.cell? ⟨w.heap.size, 4, none⟩ = some (.int .i64 x.Shovels) := B1.cell 4
      have c5 : W1.cell? ⟨w.heap.size, 5, none⟩ = some (.int .i64 x.Probes) := B1.cell 5
      have c6 : W1.cell? ⟨w.heap.size, 6, none⟩ = some (.int .i64 x.Skill) := B1.cell 6
      go_wp2_with fail
      refine (l24Share_bel x.People n k _ (by omega) (by omega) hk3 hm2 (by omega)).mono ?_
      rintro e W2 ⟨rfl, hbx⟩
      have B1 := B1.below hbx
      have BP := BP.below hbx
      have hb1 := Bel.trans hb1 hbx
      clear c0 c1 c2 c3 c4 c5 c6 hbx
      have y0 : W2.frozen? ⟨wr.heap.size + 1, 1, none⟩ = false := BP.free 1
      have y1 : W2.cell? ⟨wr.heap.size + 1, 1, none⟩ = some (.int .i64 0) := BP.cell 1
      go_upto_region 11 with fail
      have BP := BP.set 1 (.int .i64 (shr x.People k n))
      have B1 := B1.far (p := ⟨wr.heap.size + 1, 1, none⟩) hg (.int .i64 (shr x.People k n))
      have hb1 := Bel.setCell hb1 hgw (p := ⟨wr.heap.size + 1, 1, none⟩) (.int .i64 (shr x.People k n))
      clear y0 y1
      generalize (W2.setCell ⟨wr.heap.size + 1, 1, none⟩ (.int .i64 (shr x.People k n))) = W2' at *
      have c0 : W2'.cell? ⟨w.heap.size, 0, none⟩ = some (.string x.Id) := B1.cell 0
      have c1 : W2'.cell? ⟨w.heap.size, 1, none⟩ = some (.int .i64 x.People) := B1.cell 1
      have c2 : W2'.cell? ⟨w.heap.size, 2, none⟩ = some (.int .i64 x.Guides) := B1.cell 2
      have c3 : W2'.cell? ⟨w.heap.size, 3, none⟩ = some (.int .i64 x.Beacons) := B1.cell 3
      have c4 : W2'.cell? ⟨w.heap.size, 4, none⟩ = some (.int .i64 x.Shovels) := B1.cell 4
      have c5 : W2'.cell? ⟨w.heap.size, 5, none⟩ = some (.int .i64 x.Probes) := B1.cell 5
      have c6 : W2'.cell? ⟨w.heap.size, 6, none⟩ = some (.int .i64 x.Skill) := B1.cell 6
      go_wp2_with fail
      refine (l24Share_bel x.Guides n k _ (by omega) (by omega) hk3 hm2 (by omega)).mono ?_
      rintro e W3 ⟨rfl, hbx⟩
      have B1 := B1.below hbx
      have BP := BP.below hbx
      have hb1 := Bel.trans hb1 hbx
      clear c0 c1 c2 c3 c4 c5 c6 hbx
      have y0 : W3.frozen? ⟨wr.heap.size + 1, 2, none⟩ = false := BP.free 2
      have y1 : W3.cell? ⟨wr.heap.size + 1, 2, none⟩ = some (.int .i64 0) := BP.cell 2
      go_upto_region 12 with fail
      have BP := BP.set 2 (.int .i64 (shr x.Guides k n))
      have B1 := B1.far (p := ⟨wr.heap.size + 1, 2, none⟩) hg (.int .i64 (shr x.Guides k n))
      have hb1 := Bel.setCell hb1 hgw (p := ⟨wr.heap.size + 1, 2, none⟩) (.int .i64 (shr x.Guides k n))
      clear y0 y1
      generalize (W3.setCell ⟨wr.heap.size + 1, 2, none⟩ (.int .i64 (shr x.Guides k n))) = W3' at *
      have c0 : W3'.cell? ⟨w.heap.size, 0, none⟩ = some (.string x.Id) := B1.cell 0
      have c1 : W3'.cell? ⟨w.heap.size, 1, none⟩ = some (.int .i64 x.People) := B1.cell 1
      have c2 : W3'.cell? ⟨w.heap.size, 2, none⟩ = some (.int .i64 x.Guides) := B1.cell 2
      have c3 : W3'.cell? ⟨w.heap.size, 3, none⟩ = some (.int .i64 x.Beacons) := B1.cell 3
      have c4 : W3'.cell? ⟨w.heap.size, 4, none⟩ = some (.int .i64 x.Shovels) := B1.cell 4
      have c5 : W3'.cell? ⟨w.heap.size, 5, none⟩ = some (.int .i64 x.Probes) := B1.cell 5
      have c6 : W3'.cell? ⟨w.heap.size, 6, none⟩ = some (.int .i64 x.Skill) := B1.cell 6
      go_wp2_with fail
      refine (l24Share_bel x.Beacons n k _ (by omega) (by omega) hk3 hm2 (by omega)).mono ?_
      rintro e W4 ⟨rfl, hbx⟩
      have B1 := B1.below hbx
      have BP := BP.below hbx
      have hb1 := Bel.trans hb1 hbx
      clear c0 c1 c2 c3 c4 c5 c6 hbx
      have y0 : W4.frozen? ⟨wr.heap.size + 1, 3, none⟩ = false := BP.free 3
      have y1 : W4.cell? ⟨wr.heap.size + 1, 3, none⟩ = some (.int .i64 0) := BP.cell 3
      go_upto_region 13 with fail
      have BP := BP.set 3 (.int .i64 (shr x.Beacons k n))
      have B1 := B1.far (p := ⟨wr.heap.size + 1, 3, none⟩) hg (.int .i64 (shr x.Beacons k n))
      have hb1 := Bel.setCell hb1 hgw (p := ⟨wr.heap.size + 1, 3, none⟩) (.int .i64 (shr x.Beacons k n))
      clear y0 y1
      generalize (W4.setCell ⟨wr.heap.size + 1, 3, none⟩ (.int .i64 (shr x.Beacons k n))) = W4' at *
      have c0 : W4'.cell? ⟨w.heap.size, 0, none⟩ = some (.string x.Id) := B1.cell 0
      have c1 : W4'.cell? ⟨w.heap.size, 1, none⟩ = some (.int .i64 x.People) := B1.cell 1
      have c2 : W4'.cell? ⟨w.heap.size, 2, none⟩ = some (.int .i64 x.Guides) := B1.cell 2
      have c3 : W4'.cell? ⟨w.heap.size, 3, none⟩ = some (.int .i64 x.Beacons) := B1.cell 3
      have c4 : W4'.cell? ⟨w.heap.size, 4, none⟩ = some (.int .i64 x.Shovels) := B1.cell 4
      have c5 : W4'.cell? ⟨w.heap.size, 5, none⟩ = some (.int .i64 x.Probes) := B1.cell 5
      have c6 : W4'.cell? ⟨w.heap.size, 6, none⟩ = some (.int .i64 x.Skill) := B1.cell 6
      go_wp2_with fail
      refine (l24Share_bel x.Shovels n k _ (by omega) (by omega) hk3 hm2 (by omega)).mono ?_
      rintro e W5 ⟨rfl, hbx⟩
      have B1 := B1.below hbx
      have BP := BP.below hbx
      have hb1 := Bel.trans hb1 hbx
      clear c0 c1 c2 c3 c4 c5 c6 hbx
      have y0 : W5.frozen? ⟨wr.heap.size + 1, 4, none⟩ = false := BP.free 4
      have y1 : W5.cell? ⟨wr.heap.size + 1, 4, none⟩ = some (.int .i64 0) := BP.cell 4
      go_upto_region 14 with fail
      have BP := BP.set 4 (.int .i64 (shr x.Shovels k n))
      have B1 := B1.far (p := ⟨wr.heap.size + 1, 4, none⟩) hg (.int .i64 (shr x.Shovels k n))
      have hb1 := Bel.setCell hb1 hgw (p := ⟨wr.heap.size + 1, 4, none⟩) (.int .i64 (shr x.Shovels k n))
      clear y0 y1
      generalize (W5.setCell ⟨wr.heap.size + 1, 4, none⟩ (.int .i64 (shr x.Shovels k n))) = W5' at *
      have c0 : W5'.cell? ⟨w.heap.size, 0, none⟩ = some (.string x.Id) := B1.cell 0
      have c1 : W5'.cell? ⟨w.heap.size, 1, none⟩ = some (.int .i64 x.People) := B1.cell 1
      have c2 : W5'.cell? ⟨w.heap.size, 2, none⟩ = some (.int .i64 x.Guides) := B1.cell 2
      have c3 : W5'.cell? ⟨w.heap.size, 3, none⟩ = some (.int .i64 x.Beacons) := B1.cell 3
      have c4 : W5'.cell? ⟨w.heap.size, 4, none⟩ = some (.int .i64 x.Shovels) := B1.cell 4
      have c5 : W5'.cell? ⟨w.heap.size, 5, none⟩ = some (.int .i64 x.Probes) := B1.cell 5
      have c6 : W5'.cell? ⟨w.heap.size, 6, none⟩ = some (.int .i64 x.Skill) := B1.cell 6
      go_wp2_with fail
      refine (l24Share_bel x.Probes n k _ (by omega) (by omega) hk3 hm2 (by omega)).mono ?_
      rintro e W6 ⟨rfl, hbx⟩
      have B1 := B1.below hbx
      have BP := BP.below hbx
      have hb1 := Bel.trans hb1 hbx
      clear c0 c1 c2 c3 c4 c5 c6 hbx
      have y0 : W6.frozen? ⟨wr.heap.size + 1, 5, none⟩ = false := BP.free 5
      have y1 : W6.cell? ⟨wr.heap.size + 1, 5, none⟩ = some (.int .i64 0) := BP.cell 5
      go_upto_region 15 with fail
      have BP := BP.set 5 (.int .i64 (shr x.Probes k n))
      have B1 := B1.far (p := ⟨wr.heap.size + 1, 5, none⟩) hg (.int .i64 (shr x.Probes k n))
      have hb1 := Bel.setCell hb1 hgw (p := ⟨wr.heap.size + 1, 5, none⟩) (.int .i64 (shr x.Probes k n))
      clear y0 y1
      generalize (W6.setCell ⟨wr.heap.size + 1, 5, none⟩ (.int .i64 (shr x.Probes k n))) = W6' at *
      have hbel := Bel.trans hb hb1
      have HR6 := Lib.hid (HR.out.below hb1)
      have hsz : (partG x n k).Id.size ≤ 9223372036854775807 := by
        show (x.Id ++ letterS k).size ≤ _
        rw [ByteArray.size_append, letterS_size]; omega
      have c0 : W6'.cell? ⟨wr.heap.size + 1, 0, none⟩ = some (.string (x.Id ++ letterS k)) := BP.cell 0
      have c1 : W6'.cell? ⟨wr.heap.size + 1, 1, none⟩ = some (.int .i64 (shr x.People k n)) := BP.cell 1
      have c2 : W6'.cell? ⟨wr.heap.size + 1, 2, none⟩ = some (.int .i64 (shr x.Guides k n)) := BP.cell 2
      have c3 : W6'.cell? ⟨wr.heap.size + 1, 3, none⟩ = some (.int .i64 (shr x.Beacons k n)) := BP.cell 3
      have c4 : W6'.cell? ⟨wr.heap.size + 1, 4, none⟩ = some (.int .i64 (shr x.Shovels k n)) := BP.cell 4
      have c5 : W6'.cell? ⟨wr.heap.size + 1, 5, none⟩ = some (.int .i64 (shr x.Probes k n)) := BP.cell 5
      have c6 : W6'.cell? ⟨wr.heap.size + 1, 6, none⟩ = some (.int .i64 x.Skill) := BP.cell 6
      go_wp2_with fail
      refine (l24One_any (partG x n k) (wr.heap.size + 1) 0 W6' c0 c1 c2 c3 c4 c5 c6 hsz).mono ?_
      rintro e w7 ⟨rfl, hb7⟩
      have BP := BP.below hb7
      have hbel := Bel.trans hbel hb7
      have HR7 := Lib.hid (HR6.out.below hb7)
      have hsz7 := hbel.size
      clear c0 c1 c2 c3 c4 c5 c6 B1
      cases hpk : okGroup (partG x n k)
      · have HPK := Lib.hid hpk
        clear hpk
        go_wp2
        go_ret2
        rw [spRes_6 HV.out HQ2.out rfl hlt HPK.out]
        exact ⟨⟨_, rfl, Row.nil⟩, Bel.trans hbw hbel⟩
      · have HPK := Lib.hid hpk
        clear hpk
        have c0 : w7.cell? ⟨wr.heap.size + 1, 0, none⟩ = some (.string (x.Id ++ letterS k)) := BP.cell 0
        have c1 : w7.cell? ⟨wr.heap.size + 1, 1, none⟩ = some (.int .i64 (shr x.People k n)) := BP.cell 1
        have c2 : w7.cell? ⟨wr.heap.size + 1, 2, none⟩ = some (.int .i64 (shr x.Guides k n)) := BP.cell 2
        have c3 : w7.cell? ⟨wr.heap.size + 1, 3, none⟩ = some (.int .i64 (shr x.Beacons k n)) := BP.cell 3
        have c4 : w7.cell? ⟨wr.heap.size + 1, 4, none⟩ = some (.int .i64 (shr x.Shovels k n)) := BP.cell 4
        have c5 : w7.cell? ⟨wr.heap.size + 1, 5, none⟩ = some (.int .i64 (shr x.Probes k n)) := BP.cell 5
        have c6 : w7.cell? ⟨wr.heap.size + 1, 6, none⟩ = some (.int .i64 x.Skill) := BP.cell 6
        clear BP
        go_wp2_with (at_builtin; refine wpList_pushGr rfl _ _ 32 rfl w1.heap.size 35 Try.underlying32 (by kernel_rfl) u6 (spL x n k) (partG x n k) rfl HR7.out 1 rfl (by rw [spL_len]; omega) hsz7 ?_; intro v' w8 hr8 hb8)
        go_roundw
        case rel => exact ⟨k + 1, by omega, by go_num, by rw [spL_snoc]; exact hr8, by rw [okTo_step, HOK.out, HPK.out]; rfl, hbel.trans hb8⟩
        case measure => simp [intOf]; omega
    · obtain rfl : k = n := by omega
      have hbel := Bel.trans hbw hb
      go_wp2
      go_ret2
      rw [spRes_0 HV.out HQ2.out rfl HOK.out]
      exact ⟨⟨_, rfl, HR.out.lower hbw.size⟩, hbel⟩
end Go.Proofs.Ytfbnckgfgaddkaa
