/- Chapter 24: two groups are joined. -/
import Derived.Test.YtgannknkohomdaaL24
namespace Go.Proofs.Ytgannknkohomdaa
set_option linter.unusedSimpArgs false
set_option linter.unusedVariables false
open Go.RowKit
set_option maxHeartbeats 400000
theorem joinG_1 {a b : SGroup} {id : ByteArray} (h : (okGroup a && okGroup b) = false) : joinG a b id = (zeroGroup, 1) := by simp only [joinG, h]; rfl
theorem joinG_2 {a b : SGroup} {id : ByteArray} (h1 : okGroup a = true) (h2 : okGroup b = true) (h : isName id = false) : joinG a b id = (zeroGroup, 2) := by simp only [joinG, h1, h2, h]; rfl
theorem joinG_6 {a b : SGroup} {id : ByteArray} (h1 : okGroup a = true) (h2 : okGroup b = true) (h : isName id = true) (h3 : okGroup (sumG a b id) = false) : joinG a b id = (zeroGroup, 6) := by simp only [joinG, h1, h2, h, h3]; rfl
theorem joinG_0 {a b : SGroup} {id : ByteArray} (h1 : okGroup a = true) (h2 : okGroup b = true) (h : isName id = true) (h3 : okGroup (sumG a b id) = true) : joinG a b id = (sumG a b id, 0) := by simp only [joinG, h1, h2, h, h3]; rfl
theorem JoinGroups_any (a b : SGroup) (id : ByteArray) (w : World) (ha : a.Id.size ≤ 9223372036854775807) (hb : b.Id.size ≤ 9223372036854775807) (hi : id.size ≤ 9223372036854775807) :
    Calls Try.prog 8 #[.agg #[.string a.Id, .int .i64 a.People, .int .i64 a.Guides, .int .i64 a.Beacons, .int .i64 a.Shovels, .int .i64 a.Probes, .int .i64 a.Skill], .agg #[.string b.Id, .int .i64 b.People, .int .i64 b.Guides, .int .i64 b.Beacons, .int .i64 b.Shovels, .int .i64 b.Probes, .int .i64 b.Skill], .string id] w fun e w' => e = .returned (.tuple #[.agg #[.string (joinG a b id).1.Id, .int .i64 (joinG a b id).1.People, .int .i64 (joinG a b id).1.Guides, .int .i64 (joinG a b id).1.Beacons, .int .i64 (joinG a b id).1.Shovels, .int .i64 (joinG a b id).1.Probes, .int .i64 (joinG a b id).1.Skill], .int .i64 (joinG a b id).2]) ∧ Below w.heap.size w w' := by
  cases h1 : okGroup a
  · rw [joinG_1 (by rw [h1]; rfl)]
    have H1 := Lib.hid h1
    clear h1
    go_enter Try.func8, Try.ntmps8
    go_wp2_with fail
    refine calls_box_out3 ?_
    intro W hbw B1 B2 B3
    refine (Calls.boolIs H1.out (validGroup_any a _ ha)).mono ?_
    rintro e w1 ⟨rfl, hb1⟩
    have hbw := Bel.trans hbw hb1
    have B1 := B1.below hb1
    have B2 := B2.below hb1
    have B3 := B3.below hb1
    clear hb1
    have d0 : w1.cell? ⟨w.heap.size + 2, 0, none⟩ = some (.string zeroGroup.Id) := B3.cell 0
    have d1 : w1.cell? ⟨w.heap.size + 2, 1, none⟩ = some (.int .i64 zeroGroup.People) := B3.cell 1
    have d2 : w1.cell? ⟨w.heap.size + 2, 2, none⟩ = some (.int .i64 zeroGroup.Guides) := B3.cell 2
    have d3 : w1.cell? ⟨w.heap.size + 2, 3, none⟩ = some (.int .i64 zeroGroup.Beacons) := B3.cell 3
    have d4 : w1.cell? ⟨w.heap.size + 2, 4, none⟩ = some (.int .i64 zeroGroup.Shovels) := B3.cell 4
    have d5 : w1.cell? ⟨w.heap.size + 2, 5, none⟩ = some (.int .i64 zeroGroup.Probes) := B3.cell 5
    have d6 : w1.cell? ⟨w.heap.size + 2, 6, none⟩ = some (.int .i64 zeroGroup.Skill) := B3.cell 6
    have z0 : w1.frozen? ⟨w.heap.size + 2, 0, none⟩ = false := B3.free 0
    have z1 : w1.frozen? ⟨w.heap.size + 2, 1, none⟩ = false := B3.free 1
    have z2 : w1.frozen? ⟨w.heap.size + 2, 2, none⟩ = false := B3.free 2
    have z3 : w1.frozen? ⟨w.heap.size + 2, 3, none⟩ = false := B3.free 3
    have z4 : w1.frozen? ⟨w.heap.size + 2, 4, none⟩ = false := B3.free 4
    have z5 : w1.frozen? ⟨w.heap.size + 2, 5, none⟩ = false := B3.free 5
    have z6 : w1.frozen? ⟨w.heap.size + 2, 6, none⟩ = false := B3.free 6
    clear B1 B2 B3
    go_wp2_with fail
    exact bodyPost_ret (v := .tuple #[.agg #[.string zeroGroup.Id, .int .i64 zeroGroup.People, .int .i64 zeroGroup.Guides, .int .i64 zeroGroup.Beacons, .int .i64 zeroGroup.Shovels, .int .i64 zeroGroup.Probes, .int .i64 zeroGroup.Skill], .int .i64 1]) (by simp [results, Try.results8, go_sem, d0, d1, d2, d3, d4, d5, d6, zeroGroup]) rfl ⟨rfl, (by repeat (first | (with_reducible assumption) | (with_reducible exact Below.refl _ _) | (with_reducible refine Bel.alloc ?_ _) | (with_reducible refine Below.drew ?_) | (with_reducible refine Bel.drewN ?_ _) | (with_reducible refine Bel.setCell ?_ (by (try simp) <;> omega) _) | (with_reducible refine Bel.trans ?_ (by assumption))))⟩
  · have H1 := Lib.hid h1
    clear h1
    cases h2 : okGroup b
    · rw [joinG_1 (by rw [h2, Bool.and_false])]
      have H2 := Lib.hid h2
      clear h2
      go_enter Try.func8, Try.ntmps8
      go_wp2_with fail
      refine calls_box_out3 ?_
      intro W hbw B1 B2 B3
      refine (Calls.boolIs H1.out (validGroup_any a _ ha)).mono ?_
      rintro e w1 ⟨rfl, hb1⟩
      have hbw := Bel.trans hbw hb1
      have B1 := B1.below hb1
      have B2 := B2.below hb1
      have B3 := B3.below hb1
      have f0 : w1.cell? ⟨w.heap.size + 1, 0, none⟩ = some (.string b.Id) := B2.cell 0
      have f1 : w1.cell? ⟨w.heap.size + 1, 1, none⟩ = some (.int .i64 b.People) := B2.cell 1
      have f2 : w1.cell? ⟨w.heap.size + 1, 2, none⟩ = some (.int .i64 b.Guides) := B2.cell 2
      have f3 : w1.cell? ⟨w.heap.size + 1, 3, none⟩ = some (.int .i64 b.Beacons) := B2.cell 3
      have f4 : w1.cell? ⟨w.heap.size + 1, 4, none⟩ = some (.int .i64 b.Shovels) := B2.cell 4
      have f5 : w1.cell? ⟨w.heap.size + 1, 5, none⟩ = some (.int .i64 b.Probes) := B2.cell 5
      have f6 : w1.cell? ⟨w.heap.size + 1, 6, none⟩ = some (.int .i64 b.Skill) := B2.cell 6
      clear hb1
      go_wp2_with fail
      refine (Calls.boolIs H2.out (validGroup_any b _ hb)).mono ?_
      rintro e w2 ⟨rfl, hb2⟩
      have hbw := Bel.trans hbw hb2
      have B1 := B1.below hb2
      have B2 := B2.below hb2
      have B3 := B3.below hb2
      clear hb2 f0 f1 f2 f3 f4 f5 f6
      have d0 : w2.cell? ⟨w.heap.size + 2, 0, none⟩ = some (.string zeroGroup.Id) := B3.cell 0
      have d1 : w2.cell? ⟨w.heap.size + 2, 1, none⟩ = some (.int .i64 zeroGroup.People) := B3.cell 1
      have d2 : w2.cell? ⟨w.heap.size + 2, 2, none⟩ = some (.int .i64 zeroGroup.Guides) := B3.cell 2
      have d3 : w2.cell? ⟨w.heap.size + 2, 3, none⟩ = some (.int .i64 zeroGroup.Beacons) := B3.cell 3
      have d4 : w2.cell? ⟨w.heap.size + 2, 4, none⟩ = some (.int .i64 zeroGroup.Shovels) := B3.cell 4
      have d5 : w2.cell? ⟨w.heap.size + 2, 5, none⟩ = some (.int .i64 zeroGroup.Probes) := B3.cell 5
      have d6 : w2.cell? ⟨w.heap.size + 2, 6, none⟩ = some (.int .i64 zeroGroup.Skill) := B3.cell 6
      have z0 : w2.frozen? ⟨w.heap.size + 2, 0, none⟩ = false := B3.free 0
      have z1 : w2.frozen? ⟨w.heap.size + 2, 1, none⟩ = false := B3.free 1
      have z2 : w2.frozen? ⟨w.heap.size + 2, 2, none⟩ = false := B3.free 2
      have z3 : w2.frozen? ⟨w.heap.size + 2, 3, none⟩ = false := B3.free 3
      have z4 : w2.frozen? ⟨w.heap.size + 2, 4, none⟩ = false := B3.free 4
      have z5 : w2.frozen? ⟨w.heap.size + 2, 5, none⟩ = false := B3.free 5
      have z6 : w2.frozen? ⟨w.heap.size + 2, 6, none⟩ = false := B3.free 6
      clear B1 B2 B3
      go_wp2_with fail
      exact bodyPost_ret (v := .tuple #[.agg #[.string zeroGroup.Id, .int .i64 zeroGroup.People, .int .i64 zeroGroup.Guides, .int .i64 zeroGroup.Beacons, .int .i64 zeroGroup.Shovels, .int .i64 zeroGroup.Probes, .int .i64 zeroGroup.Skill], .int .i64 1]) (by simp [results, Try.results8, go_sem, d0, d1, d2, d3, d4, d5, d6, zeroGroup]) rfl ⟨rfl, (by repeat (first | (with_reducible assumption) | (with_reducible exact Below.refl _ _) | (with_reducible refine Bel.alloc ?_ _) | (with_reducible refine Below.drew ?_) | (with_reducible refine Bel.drewN ?_ _) | (with_reducible refine Bel.setCell ?_ (by (try simp) <;> omega) _) | (with_reducible refine Bel.trans ?_ (by assumption))))⟩
    · have hba := bdGroup_of H1.out
      have hbb := bdGroup_of h2
      have H2 := Lib.hid h2
      have HBA := Lib.hid hba
      have HBB := Lib.hid hbb
      clear h2 hba hbb
      cases h3 : isName id
      · rw [joinG_2 H1.out H2.out h3]
        have H3 := Lib.hid h3
        clear h3
        go_enter Try.func8, Try.ntmps8
        go_wp2_with fail
        refine calls_box_out3 ?_
        intro W hbw B1 B2 B3
        refine (Calls.boolIs H1.out (validGroup_any a _ ha)).mono ?_
        rintro e w1 ⟨rfl, hb1⟩
        have hbw := Bel.trans hbw hb1
        have B1 := B1.below hb1
        have B2 := B2.below hb1
        have B3 := B3.below hb1
        have f0 : w1.cell? ⟨w.heap.size + 1, 0, none⟩ = some (.string b.Id) := B2.cell 0
        have f1 : w1.cell? ⟨w.heap.size + 1, 1, none⟩ = some (.int .i64 b.People) := B2.cell 1
        have f2 : w1.cell? ⟨w.heap.size + 1, 2, none⟩ = some (.int .i64 b.Guides) := B2.cell 2
        have f3 : w1.cell? ⟨w.heap.size + 1, 3, none⟩ = some (.int .i64 b.Beacons) := B2.cell 3
        have f4 : w1.cell? ⟨w.heap.size + 1, 4, none⟩ = some (.int .i64 b.Shovels) := B2.cell 4
        have f5 : w1.cell? ⟨w.heap.size + 1, 5, none⟩ = some (.int .i64 b.Probes) := B2.cell 5
        have f6 : w1.cell? ⟨w.heap.size + 1, 6, none⟩ = some (.int .i64 b.Skill) := B2.cell 6
        clear hb1
        go_wp2_with fail
        refine (Calls.boolIs H2.out (validGroup_any b _ hb)).mono ?_
        rintro e w2 ⟨rfl, hb2⟩
        have hbw := Bel.trans hbw hb2
        have B1 := B1.below hb2
        have B2 := B2.below hb2
        have B3 := B3.below hb2
        clear hb2 f0 f1 f2 f3 f4 f5 f6
        have c0 : w2.cell? ⟨w.heap.size, 0, none⟩ = some (.string a.Id) := B1.cell 0
        have c1 : w2.cell? ⟨w.heap.size, 1, none⟩ = some (.int .i64 a.People) := B1.cell 1
        have c2 : w2.cell? ⟨w.heap.size, 2, none⟩ = some (.int .i64 a.Guides) := B1.cell 2
        have c3 : w2.cell? ⟨w.heap.size, 3, none⟩ = some (.int .i64 a.Beacons) := B1.cell 3
        have c4 : w2.cell? ⟨w.heap.size, 4, none⟩ = some (.int .i64 a.Shovels) := B1.cell 4
        have c5 : w2.cell? ⟨w.heap.size, 5, none⟩ = some (.int .i64 a.Probes) := B1.cell 5
        have c6 : w2.cell? ⟨w.heap.size, 6, none⟩ = some (.int .i64 a.Skill) := B1.cell 6
        have f0 : w2.cell? ⟨w.heap.size + 1, 0, none⟩ = some (.string b.Id) := B2.cell 0
        have f1 : w2.cell? ⟨w.heap.size + 1, 1, none⟩ = some (.int .i64 b.People) := B2.cell 1
        have f2 : w2.cell? ⟨w.heap.size + 1, 2, none⟩ = some (.int .i64 b.Guides) := B2.cell 2
        have f3 : w2.cell? ⟨w.heap.size + 1, 3, none⟩ = some (.int .i64 b.Beacons) := B2.cell 3
        have f4 : w2.cell? ⟨w.heap.size + 1, 4, none⟩ = some (.int .i64 b.Shovels) := B2.cell 4
        have f5 : w2.cell? ⟨w.heap.size + 1, 5, none⟩ = some (.int .i64 b.Probes) := B2.cell 5
        have f6 : w2.cell? ⟨w.heap.size + 1, 6, none⟩ = some (.int .i64 b.Skill) := B2.cell 6
        go_wp2_with fail
        refine (Calls.boolIs H3.out (IsName_any _ _ hi)).mono ?_
        rintro e w3 ⟨rfl, rfl⟩
        have d0 : w2.cell? ⟨w.heap.size + 2, 0, none⟩ = some (.string zeroGroup.Id) := B3.cell 0
        have d1 : w2.cell? ⟨w.heap.size + 2, 1, none⟩ = some (.int .i64 zeroGroup.People) := B3.cell 1
        have d2 : w2.cell? ⟨w.heap.size + 2, 2, none⟩ = some (.int .i64 zeroGroup.Guides) := B3.cell 2
        have d3 : w2.cell? ⟨w.heap.size + 2, 3, none⟩ = some (.int .i64 zeroGroup.Beacons) := B3.cell 3
        have d4 : w2.cell? ⟨w.heap.size + 2, 4, none⟩ = some (.int .i64 zeroGroup.Shovels) := B3.cell 4
        have d5 : w2.cell? ⟨w.heap.size + 2, 5, none⟩ = some (.int .i64 zeroGroup.Probes) := B3.cell 5
        have d6 : w2.cell? ⟨w.heap.size + 2, 6, none⟩ = some (.int .i64 zeroGroup.Skill) := B3.cell 6
        have z0 : w2.frozen? ⟨w.heap.size + 2, 0, none⟩ = false := B3.free 0
        have z1 : w2.frozen? ⟨w.heap.size + 2, 1, none⟩ = false := B3.free 1
        have z2 : w2.frozen? ⟨w.heap.size + 2, 2, none⟩ = false := B3.free 2
        have z3 : w2.frozen? ⟨w.heap.size + 2, 3, none⟩ = false := B3.free 3
        have z4 : w2.frozen? ⟨w.heap.size + 2, 4, none⟩ = false := B3.free 4
        have z5 : w2.frozen? ⟨w.heap.size + 2, 5, none⟩ = false := B3.free 5
        have z6 : w2.frozen? ⟨w.heap.size + 2, 6, none⟩ = false := B3.free 6
        clear B1 B2 B3
        go_wp2_with fail
        exact bodyPost_ret (v := .tuple #[.agg #[.string zeroGroup.Id, .int .i64 zeroGroup.People, .int .i64 zeroGroup.Guides, .int .i64 zeroGroup.Beacons, .int .i64 zeroGroup.Shovels, .int .i64 zeroGroup.Probes, .int .i64 zeroGroup.Skill], .int .i64 2]) (by simp [results, Try.results8, go_sem, d0, d1, d2, d3, d4, d5, d6, zeroGroup]) rfl ⟨rfl, (by repeat (first | (with_reducible assumption) | (with_reducible exact Below.refl _ _) | (with_reducible refine Bel.alloc ?_ _) | (with_reducible refine Below.drew ?_) | (with_reducible refine Bel.drewN ?_ _) | (with_reducible refine Bel.setCell ?_ (by (try simp) <;> omega) _) | (with_reducible refine Bel.trans ?_ (by assumption))))⟩
      · have H3 := Lib.hid h3
        clear h3
        cases h4 : okGroup (sumG a b id)
        · rw [joinG_6 H1.out H2.out H3.out h4]
          have H4 := Lib.hid h4
          clear h4
          go_enter Try.func8, Try.ntmps8
          go_wp2_with fail
          refine calls_box_out3 ?_
          intro W hbw B1 B2 B3
          refine (Calls.boolIs H1.out (validGroup_any a _ ha)).mono ?_
          rintro e w1 ⟨rfl, hb1⟩
          have hbw := Bel.trans hbw hb1
          have B1 := B1.below hb1
          have B2 := B2.below hb1
          have B3 := B3.below hb1
          have f0 : w1.cell? ⟨w.heap.size + 1, 0, none⟩ = some (.string b.Id) := B2.cell 0
          have f1 : w1.cell? ⟨w.heap.size + 1, 1, none⟩ = some (.int .i64 b.People) := B2.cell 1
          have f2 : w1.cell? ⟨w.heap.size + 1, 2, none⟩ = some (.int .i64 b.Guides) := B2.cell 2
          have f3 : w1.cell? ⟨w.heap.size + 1, 3, none⟩ = some (.int .i64 b.Beacons) := B2.cell 3
          have f4 : w1.cell? ⟨w.heap.size + 1, 4, none⟩ = some (.int .i64 b.Shovels) := B2.cell 4
          have f5 : w1.cell? ⟨w.heap.size + 1, 5, none⟩ = some (.int .i64 b.Probes) := B2.cell 5
          have f6 : w1.cell? ⟨w.heap.size + 1, 6, none⟩ = some (.int .i64 b.Skill) := B2.cell 6
          clear hb1
          go_wp2_with fail
          refine (Calls.boolIs H2.out (validGroup_any b _ hb)).mono ?_
          rintro e w2 ⟨rfl, hb2⟩
          have hbw := Bel.trans hbw hb2
          have B1 := B1.below hb2
          have B2 := B2.below hb2
          have B3 := B3.below hb2
          clear hb2 f0 f1 f2 f3 f4 f5 f6
          have c0 : w2.cell? ⟨w.heap.size, 0, none⟩ = some (.string a.Id) := B1.cell 0
          have c1 : w2.cell? ⟨w.heap.size, 1, none⟩ = some (.int .i64 a.People) := B1.cell 1
          have c2 : w2.cell? ⟨w.heap.size, 2, none⟩ = some (.int .i64 a.Guides) := B1.cell 2
          have c3 : w2.cell? ⟨w.heap.size, 3, none⟩ = some (.int .i64 a.Beacons) := B1.cell 3
          have c4 : w2.cell? ⟨w.heap.size, 4, none⟩ = some (.int .i64 a.Shovels) := B1.cell 4
          have c5 : w2.cell? ⟨w.heap.size, 5, none⟩ = some (.int .i64 a.Probes) := B1.cell 5
          have c6 : w2.cell? ⟨w.heap.size, 6, none⟩ = some (.int .i64 a.Skill) := B1.cell 6
          have f0 : w2.cell? ⟨w.heap.size + 1, 0, none⟩ = some (.string b.Id) := B2.cell 0
          have f1 : w2.cell? ⟨w.heap.size + 1, 1, none⟩ = some (.int .i64 b.People) := B2.cell 1
          have f2 : w2.cell? ⟨w.heap.size + 1, 2, none⟩ = some (.int .i64 b.Guides) := B2.cell 2
          have f3 : w2.cell? ⟨w.heap.size + 1, 3, none⟩ = some (.int .i64 b.Beacons) := B2.cell 3
          have f4 : w2.cell? ⟨w.heap.size + 1, 4, none⟩ = some (.int .i64 b.Shovels) := B2.cell 4
          have f5 : w2.cell? ⟨w.heap.size + 1, 5, none⟩ = some (.int .i64 b.Probes) := B2.cell 5
          have f6 : w2.cell? ⟨w.heap.size + 1, 6, none⟩ = some (.int .i64 b.Skill) := B2.cell 6
          have hbnd := B2.lt
          go_wp2_with fail
          refine (Calls.boolIs H3.out (IsName_any _ _ hi)).mono ?_
          rintro e w3 ⟨rfl, rfl⟩
          go_wp2_with fail
          refine (with_any a b id _ HBA.out HBB.out).mono ?_
          rintro e w3 ⟨rfl, hb3⟩
          have hbw := Bel.trans hbw hb3
          have B1 := B1.below hb3
          have B2 := B2.below hb3
          have B3 := B3.below hb3
          have hl3 := B3.lt
          clear hb3 c0 c1 c2 c3 c4 c5 c6 f0 f1 f2 f3 f4 f5 f6 hbnd
          go_wp2_with fail
          refine calls_box_out ?_
          intro W4 hb4 B4
          have hbw := Bel.trans hbw hb4
          have B1 := B1.below hb4
          have B2 := B2.below hb4
          have B3 := B3.below hb4
          refine (Calls.boolIs H4.out (validGroup_any (sumG a b id) _ hi)).mono ?_
          rintro e w5 ⟨rfl, hb5⟩
          have hbw := Bel.trans hbw hb5
          have B1 := B1.below hb5
          have B2 := B2.below hb5
          have B3 := B3.below hb5
          have B4 := B4.below hb5
          clear hb4 hb5
          have d0 : w5.cell? ⟨w.heap.size + 2, 0, none⟩ = some (.string zeroGroup.Id) := B3.cell 0
          have d1 : w5.cell? ⟨w.heap.size + 2, 1, none⟩ = some (.int .i64 zeroGroup.People) := B3.cell 1
          have d2 : w5.cell? ⟨w.heap.size + 2, 2, none⟩ = some (.int .i64 zeroGroup.Guides) := B3.cell 2
          have d3 : w5.cell? ⟨w.heap.size + 2, 3, none⟩ = some (.int .i64 zeroGroup.Beacons) := B3.cell 3
          have d4 : w5.cell? ⟨w.heap.size + 2, 4, none⟩ = some (.int .i64 zeroGroup.Shovels) := B3.cell 4
          have d5 : w5.cell? ⟨w.heap.size + 2, 5, none⟩ = some (.int .i64 zeroGroup.Probes) := B3.cell 5
          have d6 : w5.cell? ⟨w.heap.size + 2, 6, none⟩ = some (.int .i64 zeroGroup.Skill) := B3.cell 6
          have z0 : w5.frozen? ⟨w.heap.size + 2, 0, none⟩ = false := B3.free 0
          have z1 : w5.frozen? ⟨w.heap.size + 2, 1, none⟩ = false := B3.free 1
          have z2 : w5.frozen? ⟨w.heap.size + 2, 2, none⟩ = false := B3.free 2
          have z3 : w5.frozen? ⟨w.heap.size + 2, 3, none⟩ = false := B3.free 3
          have z4 : w5.frozen? ⟨w.heap.size + 2, 4, none⟩ = false := B3.free 4
          have z5 : w5.frozen? ⟨w.heap.size + 2, 5, none⟩ = false := B3.free 5
          have z6 : w5.frozen? ⟨w.heap.size + 2, 6, none⟩ = false := B3.free 6
          clear B1 B2 B3
          go_wp2_with fail
          exact bodyPost_ret (v := .tuple #[.agg #[.string zeroGroup.Id, .int .i64 zeroGroup.People, .int .i64 zeroGroup.Guides, .int .i64 zeroGroup.Beacons, .int .i64 zeroGroup.Shovels, .int .i64 zeroGroup.Probes, .int .i64 zeroGroup.Skill], .int .i64 6]) (by simp [results, Try.results8, go_sem, d0, d1, d2, d3, d4, d5, d6, zeroGroup]) rfl ⟨rfl, (by repeat (first | (with_reducible assumption) | (with_reducible exact Below.refl _ _) | (with_reducible refine Bel.alloc ?_ _) | (with_reducible refine Below.drew ?_) | (with_reducible refine Bel.drewN ?_ _) | (with_reducible refine Bel.setCell ?_ (by (try simp) <;> omega) _) | (with_reducible refine Bel.trans ?_ (by assumption))))⟩
        · rw [joinG_0 H1.out H2.out H3.out h4]
          have H4 := Lib.hid h4
          clear h4
          go_enter Try.func8, Try.ntmps8
          go_wp2_with fail
          refine calls_box_out3 ?_
          intro W hbw B1 B2 B3
          refine (Calls.boolIs H1.out (validGroup_any a _ ha)).mono ?_
          rintro e w1 ⟨rfl, hb1⟩
          have hbw := Bel.trans hbw hb1
          have B1 := B1.below hb1
          have B2 := B2.below hb1
          have B3 := B3.below hb1
          have f0 : w1.cell? ⟨w.heap.size + 1, 0, none⟩ = some (.string b.Id) := B2.cell 0
          have f1 : w1.cell? ⟨w.heap.size + 1, 1, none⟩ = some (.int .i64 b.People) := B2.cell 1
          have f2 : w1.cell? ⟨w.heap.size + 1, 2, none⟩ = some (.int .i64 b.Guides) := B2.cell 2
          have f3 : w1.cell? ⟨w.heap.size + 1, 3, none⟩ = some (.int .i64 b.Beacons) := B2.cell 3
          have f4 : w1.cell? ⟨w.heap.size + 1, 4, none⟩ = some (.int .i64 b.Shovels) := B2.cell 4
          have f5 : w1.cell? ⟨w.heap.size + 1, 5, none⟩ = some (.int .i64 b.Probes) := B2.cell 5
          have f6 : w1.cell? ⟨w.heap.size + 1, 6, none⟩ = some (.int .i64 b.Skill) := B2.cell 6
          clear hb1
          go_wp2_with fail
          refine (Calls.boolIs H2.out (validGroup_any b _ hb)).mono ?_
          rintro e w2 ⟨rfl, hb2⟩
          have hbw := Bel.trans hbw hb2
          have B1 := B1.below hb2
          have B2 := B2.below hb2
          have B3 := B3.below hb2
          clear hb2 f0 f1 f2 f3 f4 f5 f6
          have c0 : w2.cell? ⟨w.heap.size, 0, none⟩ = some (.string a.Id) := B1.cell 0
          have c1 : w2.cell? ⟨w.heap.size, 1, none⟩ = some (.int .i64 a.People) := B1.cell 1
          have c2 : w2.cell? ⟨w.heap.size, 2, none⟩ = some (.int .i64 a.Guides) := B1.cell 2
          have c3 : w2.cell? ⟨w.heap.size, 3, none⟩ = some (.int .i64 a.Beacons) := B1.cell 3
          have c4 : w2.cell? ⟨w.heap.size, 4, none⟩ = some (.int .i64 a.Shovels) := B1.cell 4
          have c5 : w2.cell? ⟨w.heap.size, 5, none⟩ = some (.int .i64 a.Probes) := B1.cell 5
          have c6 : w2.cell? ⟨w.heap.size, 6, none⟩ = some (.int .i64 a.Skill) := B1.cell 6
          have f0 : w2.cell? ⟨w.heap.size + 1, 0, none⟩ = some (.string b.Id) := B2.cell 0
          have f1 : w2.cell? ⟨w.heap.size + 1, 1, none⟩ = some (.int .i64 b.People) := B2.cell 1
          have f2 : w2.cell? ⟨w.heap.size + 1, 2, none⟩ = some (.int .i64 b.Guides) := B2.cell 2
          have f3 : w2.cell? ⟨w.heap.size + 1, 3, none⟩ = some (.int .i64 b.Beacons) := B2.cell 3
          have f4 : w2.cell? ⟨w.heap.size + 1, 4, none⟩ = some (.int .i64 b.Shovels) := B2.cell 4
          have f5 : w2.cell? ⟨w.heap.size + 1, 5, none⟩ = some (.int .i64 b.Probes) := B2.cell 5
          have f6 : w2.cell? ⟨w.heap.size + 1, 6, none⟩ = some (.int .i64 b.Skill) := B2.cell 6
          have hbnd := B2.lt
          go_wp2_with fail
          refine (Calls.boolIs H3.out (IsName_any _ _ hi)).mono ?_
          rintro e w3 ⟨rfl, rfl⟩
          go_wp2_with fail
          refine (with_any a b id _ HBA.out HBB.out).mono ?_
          rintro e w3 ⟨rfl, hb3⟩
          have hbw := Bel.trans hbw hb3
          have B1 := B1.below hb3
          have B2 := B2.below hb3
          have B3 := B3.below hb3
          have hl3 := B3.lt
          clear hb3 c0 c1 c2 c3 c4 c5 c6 f0 f1 f2 f3 f4 f5 f6 hbnd
          go_wp2_with fail
          refine calls_box_out ?_
          intro W4 hb4 B4
          have hbw := Bel.trans hbw hb4
          have B1 := B1.below hb4
          have B2 := B2.below hb4
          have B3 := B3.below hb4
          refine (Calls.boolIs H4.out (validGroup_any (sumG a b id) _ hi)).mono ?_
          rintro e w5 ⟨rfl, hb5⟩
          have hbw := Bel.trans hbw hb5
          have B1 := B1.below hb5
          have B2 := B2.below hb5
          have B3 := B3.below hb5
          have B4 := B4.below hb5
          clear hb4 hb5
          have d0 : w5.cell? ⟨w.heap.size + 2, 0, none⟩ = some (.string zeroGroup.Id) := B3.cell 0
          have d1 : w5.cell? ⟨w.heap.size + 2, 1, none⟩ = some (.int .i64 zeroGroup.People) := B3.cell 1
          have d2 : w5.cell? ⟨w.heap.size + 2, 2, none⟩ = some (.int .i64 zeroGroup.Guides) := B3.cell 2
          have d3 : w5.cell? ⟨w.heap.size + 2, 3, none⟩ = some (.int .i64 zeroGroup.Beacons) := B3.cell 3
          have d4 : w5.cell? ⟨w.heap.size + 2, 4, none⟩ = some (.int .i64 zeroGroup.Shovels) := B3.cell 4
          have d5 : w5.cell? ⟨w.heap.size + 2, 5, none⟩ = some (.int .i64 zeroGroup.Probes) := B3.cell 5
          have d6 : w5.cell? ⟨w.heap.size + 2, 6, none⟩ = some (.int .i64 zeroGroup.Skill) := B3.cell 6
          have z0 : w5.frozen? ⟨w.heap.size + 2, 0, none⟩ = false := B3.free 0
          have z1 : w5.frozen? ⟨w.heap.size + 2, 1, none⟩ = false := B3.free 1
          have z2 : w5.frozen? ⟨w.heap.size + 2, 2, none⟩ = false := B3.free 2
          have z3 : w5.frozen? ⟨w.heap.size + 2, 3, none⟩ = false := B3.free 3
          have z4 : w5.frozen? ⟨w.heap.size + 2, 4, none⟩ = false := B3.free 4
          have z5 : w5.frozen? ⟨w.heap.size + 2, 5, none⟩ = false := B3.free 5
          have z6 : w5.frozen? ⟨w.heap.size + 2, 6, none⟩ = false := B3.free 6
          have c0 : w5.cell? ⟨w3.heap.size, 0, none⟩ = some (.string (sumG a b id).Id) := B4.cell 0
          have c1 : w5.cell? ⟨w3.heap.size, 1, none⟩ = some (.int .i64 (sumG a b id).People) := B4.cell 1
          have c2 : w5.cell? ⟨w3.heap.size, 2, none⟩ = some (.int .i64 (sumG a b id).Guides) := B4.cell 2
          have c3 : w5.cell? ⟨w3.heap.size, 3, none⟩ = some (.int .i64 (sumG a b id).Beacons) := B4.cell 3
          have c4 : w5.cell? ⟨w3.heap.size, 4, none⟩ = some (.int .i64 (sumG a b id).Shovels) := B4.cell 4
          have c5 : w5.cell? ⟨w3.heap.size, 5, none⟩ = some (.int .i64 (sumG a b id).Probes) := B4.cell 5
          have c6 : w5.cell? ⟨w3.heap.size, 6, none⟩ = some (.int .i64 (sumG a b id).Skill) := B4.cell 6
          have hne : w.heap.size + 2 < w3.heap.size := hl3
          clear B1 B2 B3 B4
          go_wp2_with fail
          exact bodyPost_ret (v := .tuple #[.agg #[.string (sumG a b id).Id, .int .i64 (sumG a b id).People, .int .i64 (sumG a b id).Guides, .int .i64 (sumG a b id).Beacons, .int .i64 (sumG a b id).Shovels, .int .i64 (sumG a b id).Probes, .int .i64 (sumG a b id).Skill], .int .i64 0]) (by simp [results, Try.results8, go_sem, d0, d1, d2, d3, d4, d5, d6]) rfl ⟨rfl, (by repeat (first | (with_reducible assumption) | (with_reducible exact Below.refl _ _) | (with_reducible refine Bel.alloc ?_ _) | (with_reducible refine Below.drew ?_) | (with_reducible refine Bel.drewN ?_ _) | (with_reducible refine Bel.setCell ?_ (by (try simp) <;> omega) _) | (with_reducible refine Bel.trans ?_ (by assumption))))⟩
theorem sJoinGroups_any (a b : SGroup) (id : ByteArray) (w : World) (ha : a.Id.size ≤ 9223372036854775807) (hb : b.Id.size ≤ 9223372036854775807) (hi : id.size ≤ 9223372036854775807) :
    Calls Try.prog 6 #[.agg #[.string a.Id, .int .i64 a.People, .int .i64 a.Guides, .int .i64 a.Beacons, .int .i64 a.Shovels, .int .i64 a.Probes, .int .i64 a.Skill], .agg #[.string b.Id, .int .i64 b.People, .int .i64 b.Guides, .int .i64 b.Beacons, .int .i64 b.Shovels, .int .i64 b.Probes, .int .i64 b.Skill], .string id] w fun e w' => e = .returned (.tuple #[.agg #[.string (joinG a b id).1.Id, .int .i64 (joinG a b id).1.People, .int .i64 (joinG a b id).1.Guides, .int .i64 (joinG a b id).1.Beacons, .int .i64 (joinG a b id).1.Shovels, .int .i64 (joinG a b id).1.Probes, .int .i64 (joinG a b id).1.Skill], .int .i64 (joinG a b id).2]) ∧ Below w.heap.size w w' := by
  cases h1 : okGroup a
  · rw [joinG_1 (by rw [h1]; rfl)]
    have H1 := Lib.hid h1
    clear h1
    go_enter Try.func6, Try.ntmps6
    go_wp2_with fail
    refine calls_box_out3 ?_
    intro W hbw B1 B2 B3
    refine (Calls.boolIs H1.out (l24One_any a w.heap.size 0 _ (B1.cell 0) (B1.cell 1) (B1.cell 2) (B1.cell 3) (B1.cell 4) (B1.cell 5) (B1.cell 6) ha)).mono ?_
    rintro e w1 ⟨rfl, hb1⟩
    have hbw := Bel.trans hbw hb1
    have B1 := B1.below hb1
    have B2 := B2.below hb1
    have B3 := B3.below hb1
    clear hb1
    have d0 : w1.cell? ⟨w.heap.size + 2, 0, none⟩ = some (.string zeroGroup.Id) := B3.cell 0
    have d1 : w1.cell? ⟨w.heap.size + 2, 1, none⟩ = some (.int .i64 zeroGroup.People) := B3.cell 1
    have d2 : w1.cell? ⟨w.heap.size + 2, 2, none⟩ = some (.int .i64 zeroGroup.Guides) := B3.cell 2
    have d3 : w1.cell? ⟨w.heap.size + 2, 3, none⟩ = some (.int .i64 zeroGroup.Beacons) := B3.cell 3
    have d4 : w1.cell? ⟨w.heap.size + 2, 4, none⟩ = some (.int .i64 zeroGroup.Shovels) := B3.cell 4
    have d5 : w1.cell? ⟨w.heap.size + 2, 5, none⟩ = some (.int .i64 zeroGroup.Probes) := B3.cell 5
    have d6 : w1.cell? ⟨w.heap.size + 2, 6, none⟩ = some (.int .i64 zeroGroup.Skill) := B3.cell 6
    have z0 : w1.frozen? ⟨w.heap.size + 2, 0, none⟩ = false := B3.free 0
    have z1 : w1.frozen? ⟨w.heap.size + 2, 1, none⟩ = false := B3.free 1
    have z2 : w1.frozen? ⟨w.heap.size + 2, 2, none⟩ = false := B3.free 2
    have z3 : w1.frozen? ⟨w.heap.size + 2, 3, none⟩ = false := B3.free 3
    have z4 : w1.frozen? ⟨w.heap.size + 2, 4, none⟩ = false := B3.free 4
    have z5 : w1.frozen? ⟨w.heap.size + 2, 5, none⟩ = false := B3.free 5
    have z6 : w1.frozen? ⟨w.heap.size + 2, 6, none⟩ = false := B3.free 6
    clear B1 B2 B3
    go_wp2_with fail
    exact bodyPost_ret (v := .tuple #[.agg #[.string zeroGroup.Id, .int .i64 zeroGroup.People, .int .i64 zeroGroup.Guides, .int .i64 zeroGroup.Beacons, .int .i64 zeroGroup.Shovels, .int .i64 zeroGroup.Probes, .int .i64 zeroGroup.Skill], .int .i64 1]) (by simp [results, Try.results6, go_sem, d0, d1, d2, d3, d4, d5, d6, zeroGroup]) rfl ⟨rfl, (by repeat (first | (with_reducible assumption) | (with_reducible exact Below.refl _ _) | (with_reducible refine Bel.alloc ?_ _) | (with_reducible refine Below.drew ?_) | (with_reducible refine Bel.drewN ?_ _) | (with_reducible refine Bel.setCell ?_ (by (try simp) <;> omega) _) | (with_reducible refine Bel.trans ?_ (by assumption))))⟩
  · have H1 := Lib.hid h1
    clear h1
    cases h2 : okGroup b
    · rw [joinG_1 (by rw [h2, Bool.and_false])]
      have H2 := Lib.hid h2
      clear h2
      go_enter Try.func6, Try.ntmps6
      go_wp2_with fail
      refine calls_box_out3 ?_
      intro W hbw B1 B2 B3
      refine (Calls.boolIs H1.out (l24One_any a w.heap.size 0 _ (B1.cell 0) (B1.cell 1) (B1.cell 2) (B1.cell 3) (B1.cell 4) (B1.cell 5) (B1.cell 6) ha)).mono ?_
      rintro e w1 ⟨rfl, hb1⟩
      have hbw := Bel.trans hbw hb1
      have B1 := B1.below hb1
      have B2 := B2.below hb1
      have B3 := B3.below hb1
      have f0 : w1.cell? ⟨w.heap.size + 1, 0, none⟩ = some (.string b.Id) := B2.cell 0
      have f1 : w1.cell? ⟨w.heap.size + 1, 1, none⟩ = some (.int .i64 b.People) := B2.cell 1
      have f2 : w1.cell? ⟨w.heap.size + 1, 2, none⟩ = some (.int .i64 b.Guides) := B2.cell 2
      have f3 : w1.cell? ⟨w.heap.size + 1, 3, none⟩ = some (.int .i64 b.Beacons) := B2.cell 3
      have f4 : w1.cell? ⟨w.heap.size + 1, 4, none⟩ = some (.int .i64 b.Shovels) := B2.cell 4
      have f5 : w1.cell? ⟨w.heap.size + 1, 5, none⟩ = some (.int .i64 b.Probes) := B2.cell 5
      have f6 : w1.cell? ⟨w.heap.size + 1, 6, none⟩ = some (.int .i64 b.Skill) := B2.cell 6
      clear hb1
      go_wp2_with fail
      refine (Calls.boolIs H2.out (l24One_any b (w.heap.size + 1) 0 _ (B2.cell 0) (B2.cell 1) (B2.cell 2) (B2.cell 3) (B2.cell 4) (B2.cell 5) (B2.cell 6) hb)).mono ?_
      rintro e w2 ⟨rfl, hb2⟩
      have hbw := Bel.trans hbw hb2
      have B1 := B1.below hb2
      have B2 := B2.below hb2
      have B3 := B3.below hb2
      clear hb2 f0 f1 f2 f3 f4 f5 f6
      have d0 : w2.cell? ⟨w.heap.size + 2, 0, none⟩ = some (.string zeroGroup.Id) := B3.cell 0
      have d1 : w2.cell? ⟨w.heap.size + 2, 1, none⟩ = some (.int .i64 zeroGroup.People) := B3.cell 1
      have d2 : w2.cell? ⟨w.heap.size + 2, 2, none⟩ = some (.int .i64 zeroGroup.Guides) := B3.cell 2
      have d3 : w2.cell? ⟨w.heap.size + 2, 3, none⟩ = some (.int .i64 zeroGroup.Beacons) := B3.cell 3
      have d4 : w2.cell? ⟨w.heap.size + 2, 4, none⟩ = some (.int .i64 zeroGroup.Shovels) := B3.cell 4
      have d5 : w2.cell? ⟨w.heap.size + 2, 5, none⟩ = some (.int .i64 zeroGroup.Probes) := B3.cell 5
      have d6 : w2.cell? ⟨w.heap.size + 2, 6, none⟩ = some (.int .i64 zeroGroup.Skill) := B3.cell 6
      have z0 : w2.frozen? ⟨w.heap.size + 2, 0, none⟩ = false := B3.free 0
      have z1 : w2.frozen? ⟨w.heap.size + 2, 1, none⟩ = false := B3.free 1
      have z2 : w2.frozen? ⟨w.heap.size + 2, 2, none⟩ = false := B3.free 2
      have z3 : w2.frozen? ⟨w.heap.size + 2, 3, none⟩ = false := B3.free 3
      have z4 : w2.frozen? ⟨w.heap.size + 2, 4, none⟩ = false := B3.free 4
      have z5 : w2.frozen? ⟨w.heap.size + 2, 5, none⟩ = false := B3.free 5
      have z6 : w2.frozen? ⟨w.heap.size + 2, 6, none⟩ = false := B3.free 6
      clear B1 B2 B3
      go_wp2_with fail
      exact bodyPost_ret (v := .tuple #[.agg #[.string zeroGroup.Id, .int .i64 zeroGroup.People, .int .i64 zeroGroup.Guides, .int .i64 zeroGroup.Beacons, .int .i64 zeroGroup.Shovels, .int .i64 zeroGroup.Probes, .int .i64 zeroGroup.Skill], .int .i64 1]) (by simp [results, Try.results6, go_sem, d0, d1, d2, d3, d4, d5, d6, zeroGroup]) rfl ⟨rfl, (by repeat (first | (with_reducible assumption) | (with_reducible exact Below.refl _ _) | (with_reducible refine Bel.alloc ?_ _) | (with_reducible refine Below.drew ?_) | (with_reducible refine Bel.drewN ?_ _) | (with_reducible refine Bel.setCell ?_ (by (try simp) <;> omega) _) | (with_reducible refine Bel.trans ?_ (by assumption))))⟩
    · have hba := bdGroup_of H1.out
      have hbb := bdGroup_of h2
      have H2 := Lib.hid h2
      have HBA := Lib.hid hba
      have HBB := Lib.hid hbb
      clear h2 hba hbb
      cases h3 : isName id
      · rw [joinG_2 H1.out H2.out h3]
        have H3 := Lib.hid h3
        clear h3
        go_enter Try.func6, Try.ntmps6
        go_wp2_with fail
        refine calls_box_out3 ?_
        intro W hbw B1 B2 B3
        refine (Calls.boolIs H1.out (l24One_any a w.heap.size 0 _ (B1.cell 0) (B1.cell 1) (B1.cell 2) (B1.cell 3) (B1.cell 4) (B1.cell 5) (B1.cell 6) ha)).mono ?_
        rintro e w1 ⟨rfl, hb1⟩
        have hbw := Bel.trans hbw hb1
        have B1 := B1.below hb1
        have B2 := B2.below hb1
        have B3 := B3.below hb1
        have f0 : w1.cell? ⟨w.heap.size + 1, 0, none⟩ = some (.string b.Id) := B2.cell 0
        have f1 : w1.cell? ⟨w.heap.size + 1, 1, none⟩ = some (.int .i64 b.People) := B2.cell 1
        have f2 : w1.cell? ⟨w.heap.size + 1, 2, none⟩ = some (.int .i64 b.Guides) := B2.cell 2
        have f3 : w1.cell? ⟨w.heap.size + 1, 3, none⟩ = some (.int .i64 b.Beacons) := B2.cell 3
        have f4 : w1.cell? ⟨w.heap.size + 1, 4, none⟩ = some (.int .i64 b.Shovels) := B2.cell 4
        have f5 : w1.cell? ⟨w.heap.size + 1, 5, none⟩ = some (.int .i64 b.Probes) := B2.cell 5
        have f6 : w1.cell? ⟨w.heap.size + 1, 6, none⟩ = some (.int .i64 b.Skill) := B2.cell 6
        clear hb1
        go_wp2_with fail
        refine (Calls.boolIs H2.out (l24One_any b (w.heap.size + 1) 0 _ (B2.cell 0) (B2.cell 1) (B2.cell 2) (B2.cell 3) (B2.cell 4) (B2.cell 5) (B2.cell 6) hb)).mono ?_
        rintro e w2 ⟨rfl, hb2⟩
        have hbw := Bel.trans hbw hb2
        have B1 := B1.below hb2
        have B2 := B2.below hb2
        have B3 := B3.below hb2
        clear hb2 f0 f1 f2 f3 f4 f5 f6
        have c0 : w2.cell? ⟨w.heap.size, 0, none⟩ = some (.string a.Id) := B1.cell 0
        have c1 : w2.cell? ⟨w.heap.size, 1, none⟩ = some (.int .i64 a.People) := B1.cell 1
        have c2 : w2.cell? ⟨w.heap.size, 2, none⟩ = some (.int .i64 a.Guides) := B1.cell 2
        have c3 : w2.cell? ⟨w.heap.size, 3, none⟩ = some (.int .i64 a.Beacons) := B1.cell 3
        have c4 : w2.cell? ⟨w.heap.size, 4, none⟩ = some (.int .i64 a.Shovels) := B1.cell 4
        have c5 : w2.cell? ⟨w.heap.size, 5, none⟩ = some (.int .i64 a.Probes) := B1.cell 5
        have c6 : w2.cell? ⟨w.heap.size, 6, none⟩ = some (.int .i64 a.Skill) := B1.cell 6
        have f0 : w2.cell? ⟨w.heap.size + 1, 0, none⟩ = some (.string b.Id) := B2.cell 0
        have f1 : w2.cell? ⟨w.heap.size + 1, 1, none⟩ = some (.int .i64 b.People) := B2.cell 1
        have f2 : w2.cell? ⟨w.heap.size + 1, 2, none⟩ = some (.int .i64 b.Guides) := B2.cell 2
        have f3 : w2.cell? ⟨w.heap.size + 1, 3, none⟩ = some (.int .i64 b.Beacons) := B2.cell 3
        have f4 : w2.cell? ⟨w.heap.size + 1, 4, none⟩ = some (.int .i64 b.Shovels) := B2.cell 4
        have f5 : w2.cell? ⟨w.heap.size + 1, 5, none⟩ = some (.int .i64 b.Probes) := B2.cell 5
        have f6 : w2.cell? ⟨w.heap.size + 1, 6, none⟩ = some (.int .i64 b.Skill) := B2.cell 6
        go_wp2_with fail
        refine (Calls.boolIs H3.out (l01Name_any _ _ hi)).mono ?_
        rintro e w3 ⟨rfl, rfl⟩
        have d0 : w2.cell? ⟨w.heap.size + 2, 0, none⟩ = some (.string zeroGroup.Id) := B3.cell 0
        have d1 : w2.cell? ⟨w.heap.size + 2, 1, none⟩ = some (.int .i64 zeroGroup.People) := B3.cell 1
        have d2 : w2.cell? ⟨w.heap.size + 2, 2, none⟩ = some (.int .i64 zeroGroup.Guides) := B3.cell 2
        have d3 : w2.cell? ⟨w.heap.size + 2, 3, none⟩ = some (.int .i64 zeroGroup.Beacons) := B3.cell 3
        have d4 : w2.cell? ⟨w.heap.size + 2, 4, none⟩ = some (.int .i64 zeroGroup.Shovels) := B3.cell 4
        have d5 : w2.cell? ⟨w.heap.size + 2, 5, none⟩ = some (.int .i64 zeroGroup.Probes) := B3.cell 5
        have d6 : w2.cell? ⟨w.heap.size + 2, 6, none⟩ = some (.int .i64 zeroGroup.Skill) := B3.cell 6
        have z0 : w2.frozen? ⟨w.heap.size + 2, 0, none⟩ = false := B3.free 0
        have z1 : w2.frozen? ⟨w.heap.size + 2, 1, none⟩ = false := B3.free 1
        have z2 : w2.frozen? ⟨w.heap.size + 2, 2, none⟩ = false := B3.free 2
        have z3 : w2.frozen? ⟨w.heap.size + 2, 3, none⟩ = false := B3.free 3
        have z4 : w2.frozen? ⟨w.heap.size + 2, 4, none⟩ = false := B3.free 4
        have z5 : w2.frozen? ⟨w.heap.size + 2, 5, none⟩ = false := B3.free 5
        have z6 : w2.frozen? ⟨w.heap.size + 2, 6, none⟩ = false := B3.free 6
        clear B1 B2 B3
        go_wp2_with fail
        exact bodyPost_ret (v := .tuple #[.agg #[.string zeroGroup.Id, .int .i64 zeroGroup.People, .int .i64 zeroGroup.Guides, .int .i64 zeroGroup.Beacons, .int .i64 zeroGroup.Shovels, .int .i64 zeroGroup.Probes, .int .i64 zeroGroup.Skill], .int .i64 2]) (by simp [results, Try.results6, go_sem, d0, d1, d2, d3, d4, d5, d6, zeroGroup]) rfl ⟨rfl, (by repeat (first | (with_reducible assumption) | (with_reducible exact Below.refl _ _) | (with_reducible refine Bel.alloc ?_ _) | (with_reducible refine Below.drew ?_) | (with_reducible refine Bel.drewN ?_ _) | (with_reducible refine Bel.setCell ?_ (by (try simp) <;> omega) _) | (with_reducible refine Bel.trans ?_ (by assumption))))⟩
      · have H3 := Lib.hid h3
        clear h3
        cases h4 : okGroup (sumG a b id)
        · rw [joinG_6 H1.out H2.out H3.out h4]
          have H4 := Lib.hid h4
          clear h4
          go_enter Try.func6, Try.ntmps6
          go_wp2_with fail
          refine calls_box_out3 ?_
          intro W hbw B1 B2 B3
          refine (Calls.boolIs H1.out (l24One_any a w.heap.size 0 _ (B1.cell 0) (B1.cell 1) (B1.cell 2) (B1.cell 3) (B1.cell 4) (B1.cell 5) (B1.cell 6) ha)).mono ?_
          rintro e w1 ⟨rfl, hb1⟩
          have hbw := Bel.trans hbw hb1
          have B1 := B1.below hb1
          have B2 := B2.below hb1
          have B3 := B3.below hb1
          have f0 : w1.cell? ⟨w.heap.size + 1, 0, none⟩ = some (.string b.Id) := B2.cell 0
          have f1 : w1.cell? ⟨w.heap.size + 1, 1, none⟩ = some (.int .i64 b.People) := B2.cell 1
          have f2 : w1.cell? ⟨w.heap.size + 1, 2, none⟩ = some (.int .i64 b.Guides) := B2.cell 2
          have f3 : w1.cell? ⟨w.heap.size + 1, 3, none⟩ = some (.int .i64 b.Beacons) := B2.cell 3
          have f4 : w1.cell? ⟨w.heap.size + 1, 4, none⟩ = some (.int .i64 b.Shovels) := B2.cell 4
          have f5 : w1.cell? ⟨w.heap.size + 1, 5, none⟩ = some (.int .i64 b.Probes) := B2.cell 5
          have f6 : w1.cell? ⟨w.heap.size + 1, 6, none⟩ = some (.int .i64 b.Skill) := B2.cell 6
          clear hb1
          go_wp2_with fail
          refine (Calls.boolIs H2.out (l24One_any b (w.heap.size + 1) 0 _ (B2.cell 0) (B2.cell 1) (B2.cell 2) (B2.cell 3) (B2.cell 4) (B2.cell 5) (B2.cell 6) hb)).mono ?_
          rintro e w2 ⟨rfl, hb2⟩
          have hbw := Bel.trans hbw hb2
          have B1 := B1.below hb2
          have B2 := B2.below hb2
          have B3 := B3.below hb2
          clear hb2 f0 f1 f2 f3 f4 f5 f6
          have c0 : w2.cell? ⟨w.heap.size, 0, none⟩ = some (.string a.Id) := B1.cell 0
          have c1 : w2.cell? ⟨w.heap.size, 1, none⟩ = some (.int .i64 a.People) := B1.cell 1
          have c2 : w2.cell? ⟨w.heap.size, 2, none⟩ = some (.int .i64 a.Guides) := B1.cell 2
          have c3 : w2.cell? ⟨w.heap.size, 3, none⟩ = some (.int .i64 a.Beacons) := B1.cell 3
          have c4 : w2.cell? ⟨w.heap.size, 4, none⟩ = some (.int .i64 a.Shovels) := B1.cell 4
          have c5 : w2.cell? ⟨w.heap.size, 5, none⟩ = some (.int .i64 a.Probes) := B1.cell 5
          have c6 : w2.cell? ⟨w.heap.size, 6, none⟩ = some (.int .i64 a.Skill) := B1.cell 6
          have f0 : w2.cell? ⟨w.heap.size + 1, 0, none⟩ = some (.string b.Id) := B2.cell 0
          have f1 : w2.cell? ⟨w.heap.size + 1, 1, none⟩ = some (.int .i64 b.People) := B2.cell 1
          have f2 : w2.cell? ⟨w.heap.size + 1, 2, none⟩ = some (.int .i64 b.Guides) := B2.cell 2
          have f3 : w2.cell? ⟨w.heap.size + 1, 3, none⟩ = some (.int .i64 b.Beacons) := B2.cell 3
          have f4 : w2.cell? ⟨w.heap.size + 1, 4, none⟩ = some (.int .i64 b.Shovels) := B2.cell 4
          have f5 : w2.cell? ⟨w.heap.size + 1, 5, none⟩ = some (.int .i64 b.Probes) := B2.cell 5
          have f6 : w2.cell? ⟨w.heap.size + 1, 6, none⟩ = some (.int .i64 b.Skill) := B2.cell 6
          have hbnd := B2.lt
          go_wp2_with fail
          refine (Calls.boolIs H3.out (l01Name_any _ _ hi)).mono ?_
          rintro e w3 ⟨rfl, rfl⟩
          go_wp2_with fail
          refine (l24Sum_any a b id _ _ _ HBA.out HBB.out B1 B2).mono ?_
          rintro e w3 ⟨rfl, hb3⟩
          have hbw := Bel.trans hbw hb3
          have B1 := B1.below hb3
          have B2 := B2.below hb3
          have B3 := B3.below hb3
          have hl3 := B3.lt
          clear hb3 c0 c1 c2 c3 c4 c5 c6 f0 f1 f2 f3 f4 f5 f6 hbnd
          go_wp2_with fail
          refine calls_box_out ?_
          intro W4 hb4 B4
          have hbw := Bel.trans hbw hb4
          have B1 := B1.below hb4
          have B2 := B2.below hb4
          have B3 := B3.below hb4
          refine (Calls.boolIs H4.out (l24One_any (sumG a b id) w3.heap.size 0 _ (B4.cell 0) (B4.cell 1) (B4.cell 2) (B4.cell 3) (B4.cell 4) (B4.cell 5) (B4.cell 6) hi)).mono ?_
          rintro e w5 ⟨rfl, hb5⟩
          have hbw := Bel.trans hbw hb5
          have B1 := B1.below hb5
          have B2 := B2.below hb5
          have B3 := B3.below hb5
          have B4 := B4.below hb5
          clear hb4 hb5
          have d0 : w5.cell? ⟨w.heap.size + 2, 0, none⟩ = some (.string zeroGroup.Id) := B3.cell 0
          have d1 : w5.cell? ⟨w.heap.size + 2, 1, none⟩ = some (.int .i64 zeroGroup.People) := B3.cell 1
          have d2 : w5.cell? ⟨w.heap.size + 2, 2, none⟩ = some (.int .i64 zeroGroup.Guides) := B3.cell 2
          have d3 : w5.cell? ⟨w.heap.size + 2, 3, none⟩ = some (.int .i64 zeroGroup.Beacons) := B3.cell 3
          have d4 : w5.cell? ⟨w.heap.size + 2, 4, none⟩ = some (.int .i64 zeroGroup.Shovels) := B3.cell 4
          have d5 : w5.cell? ⟨w.heap.size + 2, 5, none⟩ = some (.int .i64 zeroGroup.Probes) := B3.cell 5
          have d6 : w5.cell? ⟨w.heap.size + 2, 6, none⟩ = some (.int .i64 zeroGroup.Skill) := B3.cell 6
          have z0 : w5.frozen? ⟨w.heap.size + 2, 0, none⟩ = false := B3.free 0
          have z1 : w5.frozen? ⟨w.heap.size + 2, 1, none⟩ = false := B3.free 1
          have z2 : w5.frozen? ⟨w.heap.size + 2, 2, none⟩ = false := B3.free 2
          have z3 : w5.frozen? ⟨w.heap.size + 2, 3, none⟩ = false := B3.free 3
          have z4 : w5.frozen? ⟨w.heap.size + 2, 4, none⟩ = false := B3.free 4
          have z5 : w5.frozen? ⟨w.heap.size + 2, 5, none⟩ = false := B3.free 5
          have z6 : w5.frozen? ⟨w.heap.size + 2, 6, none⟩ = false := B3.free 6
          clear B1 B2 B3
          go_wp2_with fail
          exact bodyPost_ret (v := .tuple #[.agg #[.string zeroGroup.Id, .int .i64 zeroGroup.People, .int .i64 zeroGroup.Guides, .int .i64 zeroGroup.Beacons, .int .i64 zeroGroup.Shovels, .int .i64 zeroGroup.Probes, .int .i64 zeroGroup.Skill], .int .i64 6]) (by simp [results, Try.results6, go_sem, d0, d1, d2, d3, d4, d5, d6, zeroGroup]) rfl ⟨rfl, (by repeat (first | (with_reducible assumption) | (with_reducible exact Below.refl _ _) | (with_reducible refine Bel.alloc ?_ _) | (with_reducible refine Below.drew ?_) | (with_reducible refine Bel.drewN ?_ _) | (with_reducible refine Bel.setCell ?_ (by (try simp) <;> omega) _) | (with_reducible refine Bel.trans ?_ (by assumption))))⟩
        · rw [joinG_0 H1.out H2.out H3.out h4]
          have H4 := Lib.hid h4
          clear h4
          go_enter Try.func6, Try.ntmps6
          go_wp2_with fail
          refine calls_box_out3 ?_
          intro W hbw B1 B2 B3
          refine (Calls.boolIs H1.out (l24One_any a w.heap.size 0 _ (B1.cell 0) (B1.cell 1) (B1.cell 2) (B1.cell 3) (B1.cell 4) (B1.cell 5) (B1.cell 6) ha)).mono ?_
          rintro e w1 ⟨rfl, hb1⟩
          have hbw := Bel.trans hbw hb1
          have B1 := B1.below hb1
          have B2 := B2.below hb1
          have B3 := B3.below hb1
          have f0 : w1.cell? ⟨w.heap.size + 1, 0, none⟩ = some (.string b.Id) := B2.cell 0
          have f1 : w1.cell? ⟨w.heap.size + 1, 1, none⟩ = some (.int .i64 b.People) := B2.cell 1
          have f2 : w1.cell? ⟨w.heap.size + 1, 2, none⟩ = some (.int .i64 b.Guides) := B2.cell 2
          have f3 : w1.cell? ⟨w.heap.size + 1, 3, none⟩ = some (.int .i64 b.Beacons) := B2.cell 3
          have f4 : w1.cell? ⟨w.heap.size + 1, 4, none⟩ = some (.int .i64 b.Shovels) := B2.cell 4
          have f5 : w1.cell? ⟨w.heap.size + 1, 5, none⟩ = some (.int .i64 b.Probes) := B2.cell 5
          have f6 : w1.cell? ⟨w.heap.size + 1, 6, none⟩ = some (.int .i64 b.Skill) := B2.cell 6
          clear hb1
          go_wp2_with fail
          refine (Calls.boolIs H2.out (l24One_any b (w.heap.size + 1) 0 _ (B2.cell 0) (B2.cell 1) (B2.cell 2) (B2.cell 3) (B2.cell 4) (B2.cell 5) (B2.cell 6) hb)).mono ?_
          rintro e w2 ⟨rfl, hb2⟩
          have hbw := Bel.trans hbw hb2
          have B1 := B1.below hb2
          have B2 := B2.below hb2
          have B3 := B3.below hb2
          clear hb2 f0 f1 f2 f3 f4 f5 f6
          have c0 : w2.cell? ⟨w.heap.size, 0, none⟩ = some (.string a.Id) := B1.cell 0
          have c1 : w2.cell? ⟨w.heap.size, 1, none⟩ = some (.int .i64 a.People) := B1.cell 1
          have c2 : w2.cell? ⟨w.heap.size, 2, none⟩ = some (.int .i64 a.Guides) := B1.cell 2
          have c3 : w2.cell? ⟨w.heap.size, 3, none⟩ = some (.int .i64 a.Beacons) := B1.cell 3
          have c4 : w2.cell? ⟨w.heap.size, 4, none⟩ = some (.int .i64 a.Shovels) := B1.cell 4
          have c5 : w2.cell? ⟨w.heap.size, 5, none⟩ = some (.int .i64 a.Probes) := B1.cell 5
          have c6 : w2.cell? ⟨w.heap.size, 6, none⟩ = some (.int .i64 a.Skill) := B1.cell 6
          have f0 : w2.cell? ⟨w.heap.size + 1, 0, none⟩ = some (.string b.Id) := B2.cell 0
          have f1 : w2.cell? ⟨w.heap.size + 1, 1, none⟩ = some (.int .i64 b.People) := B2.cell 1
          have f2 : w2.cell? ⟨w.heap.size + 1, 2, none⟩ = some (.int .i64 b.Guides) := B2.cell 2
          have f3 : w2.cell? ⟨w.heap.size + 1, 3, none⟩ = some (.int .i64 b.Beacons) := B2.cell 3
          have f4 : w2.cell? ⟨w.heap.size + 1, 4, none⟩ = some (.int .i64 b.Shovels) := B2.cell 4
          have f5 : w2.cell? ⟨w.heap.size + 1, 5, none⟩ = some (.int .i64 b.Probes) := B2.cell 5
          have f6 : w2.cell? ⟨w.heap.size + 1, 6, none⟩ = some (.int .i64 b.Skill) := B2.cell 6
          have hbnd := B2.lt
          go_wp2_with fail
          refine (Calls.boolIs H3.out (l01Name_any _ _ hi)).mono ?_
          rintro e w3 ⟨rfl, rfl⟩
          go_wp2_with fail
          refine (l24Sum_any a b id _ _ _ HBA.out HBB.out B1 B2).mono ?_
          rintro e w3 ⟨rfl, hb3⟩
          have hbw := Bel.trans hbw hb3
          have B1 := B1.below hb3
          have B2 := B2.below hb3
          have B3 := B3.below hb3
          have hl3 := B3.lt
          clear hb3 c0 c1 c2 c3 c4 c5 c6 f0 f1 f2 f3 f4 f5 f6 hbnd
          go_wp2_with fail
          refine calls_box_out ?_
          intro W4 hb4 B4
          have hbw := Bel.trans hbw hb4
          have B1 := B1.below hb4
          have B2 := B2.below hb4
          have B3 := B3.below hb4
          refine (Calls.boolIs H4.out (l24One_any (sumG a b id) w3.heap.size 0 _ (B4.cell 0) (B4.cell 1) (B4.cell 2) (B4.cell 3) (B4.cell 4) (B4.cell 5) (B4.cell 6) hi)).mono ?_
          rintro e w5 ⟨rfl, hb5⟩
          have hbw := Bel.trans hbw hb5
          have B1 := B1.below hb5
          have B2 := B2.below hb5
          have B3 := B3.below hb5
          have B4 := B4.below hb5
          clear hb4 hb5
          have d0 : w5.cell? ⟨w.heap.size + 2, 0, none⟩ = some (.string zeroGroup.Id) := B3.cell 0
          have d1 : w5.cell? ⟨w.heap.size + 2, 1, none⟩ = some (.int .i64 zeroGroup.People) := B3.cell 1
          have d2 : w5.cell? ⟨w.heap.size + 2, 2, none⟩ = some (.int .i64 zeroGroup.Guides) := B3.cell 2
          have d3 : w5.cell? ⟨w.heap.size + 2, 3, none⟩ = some (.int .i64 zeroGroup.Beacons) := B3.cell 3
          have d4 : w5.cell? ⟨w.heap.size + 2, 4, none⟩ = some (.int .i64 zeroGroup.Shovels) := B3.cell 4
          have d5 : w5.cell? ⟨w.heap.size + 2, 5, none⟩ = some (.int .i64 zeroGroup.Probes) := B3.cell 5
          have d6 : w5.cell? ⟨w.heap.size + 2, 6, none⟩ = some (.int .i64 zeroGroup.Skill) := B3.cell 6
          have z0 : w5.frozen? ⟨w.heap.size + 2, 0, none⟩ = false := B3.free 0
          have z1 : w5.frozen? ⟨w.heap.size + 2, 1, none⟩ = false := B3.free 1
          have z2 : w5.frozen? ⟨w.heap.size + 2, 2, none⟩ = false := B3.free 2
          have z3 : w5.frozen? ⟨w.heap.size + 2, 3, none⟩ = false := B3.free 3
          have z4 : w5.frozen? ⟨w.heap.size + 2, 4, none⟩ = false := B3.free 4
          have z5 : w5.frozen? ⟨w.heap.size + 2, 5, none⟩ = false := B3.free 5
          have z6 : w5.frozen? ⟨w.heap.size + 2, 6, none⟩ = false := B3.free 6
          have c0 : w5.cell? ⟨w3.heap.size, 0, none⟩ = some (.string (sumG a b id).Id) := B4.cell 0
          have c1 : w5.cell? ⟨w3.heap.size, 1, none⟩ = some (.int .i64 (sumG a b id).People) := B4.cell 1
          have c2 : w5.cell? ⟨w3.heap.size, 2, none⟩ = some (.int .i64 (sumG a b id).Guides) := B4.cell 2
          have c3 : w5.cell? ⟨w3.heap.size, 3, none⟩ = some (.int .i64 (sumG a b id).Beacons) := B4.cell 3
          have c4 : w5.cell? ⟨w3.heap.size, 4, none⟩ = some (.int .i64 (sumG a b id).Shovels) := B4.cell 4
          have c5 : w5.cell? ⟨w3.heap.size, 5, none⟩ = some (.int .i64 (sumG a b id).Probes) := B4.cell 5
          have c6 : w5.cell? ⟨w3.heap.size, 6, none⟩ = some (.int .i64 (sumG a b id).Skill) := B4.cell 6
          have hne : w.heap.size + 2 < w3.heap.size := hl3
          clear B1 B2 B3 B4
          go_wp2_with fail
          exact bodyPost_ret (v := .tuple #[.agg #[.string (sumG a b id).Id, .int .i64 (sumG a b id).People, .int .i64 (sumG a b id).Guides, .int .i64 (sumG a b id).Beacons, .int .i64 (sumG a b id).Shovels, .int .i64 (sumG a b id).Probes, .int .i64 (sumG a b id).Skill], .int .i64 0]) (by simp [results, Try.results6, go_sem, d0, d1, d2, d3, d4, d5, d6]) rfl ⟨rfl, (by repeat (first | (with_reducible assumption) | (with_reducible exact Below.refl _ _) | (with_reducible refine Bel.alloc ?_ _) | (with_reducible refine Below.drew ?_) | (with_reducible refine Bel.drewN ?_ _) | (with_reducible refine Bel.setCell ?_ (by (try simp) <;> omega) _) | (with_reducible refine Bel.trans ?_ (by assumption))))⟩
end Go.Proofs.Ytgannknkohomdaa
