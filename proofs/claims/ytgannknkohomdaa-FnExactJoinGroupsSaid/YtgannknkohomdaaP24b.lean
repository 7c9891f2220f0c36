/- FnExactJoinGroups: for every input the law answers true. No condition. -/
import Derived.Test.YtgannknkohomdaaL24b
import Derived.Test.YtgannknkohomdaaLTGroup
import Derived.Deep.RegionHeld3
import Derived.Deep.CutRange
namespace Go.Proofs.Ytgannknkohomdaa
set_option linter.unusedSimpArgs false
set_option linter.unusedVariables false
open Go.RowKit
set_option maxHeartbeats 3200000
theorem Box.newD (w : World) (t : TypeId) (cs : Array Value) : Box t (w.alloc (.cells cs t)).drew w.heap.size cs := Box.new w t cs
theorem lawFnExactJoinGroups (x y : SGroup) (id : ByteArray) (w : World) (hx : x.fits) (hy : y.fits) (hi : id.size ≤ 9223372036854775807) :
    Calls Try.prog 3 #[.agg #[.string x.Id, .int .i64 x.People, .int .i64 x.Guides, .int .i64 x.Beacons, .int .i64 x.Shovels, .int .i64 x.Probes, .int .i64 x.Skill], .agg #[.string y.Id, .int .i64 y.People, .int .i64 y.Guides, .int .i64 y.Beacons, .int .i64 y.Shovels, .int .i64 y.Probes, .int .i64 y.Skill], .string id] w fun e w' => e = .returned (.bool true) ∧ Below w.heap.size w w' := by
  have hsx := SGroup.sizes hx
  have hsy := SGroup.sizes hy
  clear hx hy
  by_cases hl : 1048576 < id.size
  · go_enter Try.func3, Try.ntmps3
    go_wp2
    go_ret
    exact ⟨rfl, (by repeat (first | (with_reducible assumption) | (with_reducible exact Below.refl _ _) | (with_reducible refine Bel.alloc ?_ _) | (with_reducible refine Below.drew ?_) | (with_reducible refine Bel.drewN ?_ _) | (with_reducible refine Bel.setCell ?_ (by (try simp) <;> omega) _) | (with_reducible refine Bel.trans ?_ (by assumption))))⟩
  go_enter Try.func3, Try.ntmps3
  go_wp2_with fail
  refine calls_box_out2 ?_
  intro W hbw B1 B2
  refine (szGroup_any x 1048576 _ hsx (by omega) (by omega)).mono ?_
  rintro e w1 ⟨⟨r1, rfl, hr1, hr2, hr3⟩, hb1⟩
  have hbw := Bel.trans hbw hb1
  have B1 := B1.below hb1
  have B2 := B2.below hb1
  have f0 : w1.cell? ⟨w.heap.size + 1, 0, none⟩ = some (.string y.Id) := B2.cell 0
  have f1 : w1.cell? ⟨w.heap.size + 1, 1, none⟩ = some (.int .i64 y.People) := B2.cell 1
  have f2 : w1.cell? ⟨w.heap.size + 1, 2, none⟩ = some (.int .i64 y.Guides) := B2.cell 2
  have f3 : w1.cell? ⟨w.heap.size + 1, 3, none⟩ = some (.int .i64 y.Beacons) := B2.cell 3
  have f4 : w1.cell? ⟨w.heap.size + 1, 4, none⟩ = some (.int .i64 y.Shovels) := B2.cell 4
  have f5 : w1.cell? ⟨w.heap.size + 1, 5, none⟩ = some (.int .i64 y.Probes) := B2.cell 5
  have f6 : w1.cell? ⟨w.heap.size + 1, 6, none⟩ = some (.int .i64 y.Skill) := B2.cell 6
  clear hb1
  by_cases hr : r1 < 0
  · go_wp2
    go_ret
    exact ⟨rfl, hbw⟩
  have hr0 : 0 ≤ r1 := by omega
  go_wp2_with fail
  refine (szGroup_any y r1 _ hsy (by omega) (by omega)).mono ?_
  rintro e w2 ⟨⟨r2, rfl, hr4, hr5, hr6⟩, hb1⟩
  have hbw := Bel.trans hbw hb1
  have B1 := B1.below hb1
  have B2 := B2.below hb1
  clear f0 f1 f2 f3 f4 f5 f6
  have c0 : w2.cell? ⟨w.heap.size, 0, none⟩ = some (.string x.Id) := B1.cell 0
  have c1 : w2.cell? ⟨w.heap.size, 1, none⟩ = some (.int .i64 x.People) := B1.cell 1
  have c2 : w2.cell? ⟨w.heap.size, 2, none⟩ = some (.int .i64 x.Guides) := B1.cell 2
  have c3 : w2.cell? ⟨w.heap.size, 3, none⟩ = some (.int .i64 x.Beacons) := B1.cell 3
  have c4 : w2.cell? ⟨w.heap.size, 4, none⟩ = some (.int .i64 x.Shovels) := B1.cell 4
  have c5 : w2.cell? ⟨w.heap.size, 5, none⟩ = some (.int .i64 x.Probes) := B1.cell 5
  have c6 : w2.cell? ⟨w.heap.size, 6, none⟩ = some (.int .i64 x.Skill) := B1.cell 6
  clear hb1
  by_cases hr' : r2 < 0
  · go_wp2
    go_ret
    exact ⟨rfl, hbw⟩
  have hr0' : 0 ≤ r2 := by omega
  have HB1 := Lib.hid B1
  have HB2 := Lib.hid B2
  clear c0 c1 c2 c3 c4 c5 c6
  go_upto_region 10 with fail
  go_cut [8, 9] from 25 to 33 (fun s8 s9 wx => ∃ g, s8 = .pointer (some ⟨g, 0, none⟩) ∧ s9 = .int .i64 (joinG x y id).2 ∧ Box 25 wx g #[.string (joinG x y id).1.Id, .int .i64 (joinG x y id).1.People, .int .i64 (joinG x y id).1.Guides, .int .i64 (joinG x y id).1.Beacons, .int .i64 (joinG x y id).1.Shovels, .int .i64 (joinG x y id).1.Probes, .int .i64 (joinG x y id).1.Skill] ∧ Below w2.heap.size w2 wx)
  case first =>
    have c0 : w2.cell? ⟨w.heap.size, 0, none⟩ = some (.string x.Id) := B1.cell 0
    have c1 : w2.cell? ⟨w.heap.size, 1, none⟩ = some (.int .i64 x.People) := B1.cell 1
    have c2 : w2.cell? ⟨w.heap.size, 2, none⟩ = some (.int .i64 x.Guides) := B1.cell 2
    have c3 : w2.cell? ⟨w.heap.size, 3, none⟩ = some (.int .i64 x.Beacons) := B1.cell 3
    have c4 : w2.cell? ⟨w.heap.size, 4, none⟩ = some (.int .i64 x.Shovels) := B1.cell 4
    have c5 : w2.cell? ⟨w.heap.size, 5, none⟩ = some (.int .i64 x.Probes) := B1.cell 5
    have c6 : w2.cell? ⟨w.heap.size, 6, none⟩ = some (.int .i64 x.Skill) := B1.cell 6
    have f0 : w2.cell? ⟨w.heap.size + 1, 0, none⟩ = some (.string y.Id) := B2.cell 0
    have f1 : w2.cell? ⟨w.heap.size + 1, 1, none⟩ = some (.int .i64 y.People) := B2.cell 1
    have f2 : w2.cell? ⟨w.heap.size + 1, 2, none⟩ = some (.int .i64 y.Guides) := B2.cell 2
    have f3 : w2.cell? ⟨w.heap.size + 1, 3, none⟩ = some (.int .i64 y.Beacons) := B2.cell 3
    have f4 : w2.cell? ⟨w.heap.size + 1, 4, none⟩ = some (.int .i64 y.Shovels) := B2.cell 4
    have f5 : w2.cell? ⟨w.heap.size + 1, 5, none⟩ = some (.int .i64 y.Probes) := B2.cell 5
    have f6 : w2.cell? ⟨w.heap.size + 1, 6, none⟩ = some (.int .i64 y.Skill) := B2.cell 6
    have L1 := B1.lt
    have L2 := B2.lt
    clear B1 B2 HB1 HB2
    have H : ∀ w', Below w2.heap.size w2 w' → (w'.cell? ⟨w.heap.size, 0, none⟩ = some (.string x.Id) ∧ w'.cell? ⟨w.heap.size, 1, none⟩ = some (.int .i64 x.People) ∧ w'.cell? ⟨w.heap.size, 2, none⟩ = some (.int .i64 x.Guides) ∧ w'.cell? ⟨w.heap.size, 3, none⟩ = some (.int .i64 x.Beacons) ∧ w'.cell? ⟨w.heap.size, 4, none⟩ = some (.int .i64 x.Shovels) ∧ w'.cell? ⟨w.heap.size, 5, none⟩ = some (.int .i64 x.Probes) ∧ w'.cell? ⟨w.heap.size, 6, none⟩ = some (.int .i64 x.Skill)) ∧ (w'.cell? ⟨w.heap.size + 1, 0, none⟩ = some (.string y.Id) ∧ w'.cell? ⟨w.heap.size + 1, 1, none⟩ = some (.int .i64 y.People) ∧ w'.cell? ⟨w.heap.size + 1, 2, none⟩ = some (.int .i64 y.Guides) ∧ w'.cell? ⟨w.heap.size + 1, 3, none⟩ = some (.int .i64 y.Beacons) ∧ w'.cell? ⟨w.heap.size + 1, 4, none⟩ = some (.int .i64 y.Shovels) ∧ w'.cell? ⟨w.heap.size + 1, 5, none⟩ = some (.int .i64 y.Probes) ∧ w'.cell? ⟨w.heap.size + 1, 6, none⟩ = some (.int .i64 y.Skill)) ∧ Below w2.heap.size w2 w' := fun w' hK => ⟨⟨(hK.cell L1).trans c0, (hK.cell L1).trans c1, (hK.cell L1).trans c2, (hK.cell L1).trans c3, (hK.cell L1).trans c4, (hK.cell L1).trans c5, (hK.cell L1).trans c6⟩, ⟨(hK.cell L2).trans f0, (hK.cell L2).trans f1, (hK.cell L2).trans f2, (hK.cell L2).trans f3, (hK.cell L2).trans f4, (hK.cell L2).trans f5, (hK.cell L2).trans f6⟩, hK⟩
    go_region_held3 (fun w' => (w'.cell? ⟨w.heap.size, 0, none⟩ = some (.string x.Id) ∧ w'.cell? ⟨w.heap.size, 1, none⟩ = some (.int .i64 x.People) ∧ w'.cell? ⟨w.heap.size, 2, none⟩ = some (.int .i64 x.Guides) ∧ w'.cell? ⟨w.heap.size, 3, none⟩ = some (.int .i64 x.Beacons) ∧ w'.cell? ⟨w.heap.size, 4, none⟩ = some (.int .i64 x.Shovels) ∧ w'.cell? ⟨w.heap.size, 5, none⟩ = some (.int .i64 x.Probes) ∧ w'.cell? ⟨w.heap.size, 6, none⟩ = some (.int .i64 x.Skill)) ∧ (w'.cell? ⟨w.heap.size + 1, 0, none⟩ = some (.string y.Id) ∧ w'.cell? ⟨w.heap.size + 1, 1, none⟩ = some (.int .i64 y.People) ∧ w'.cell? ⟨w.heap.size + 1, 2, none⟩ = some (.int .i64 y.Guides) ∧ w'.cell? ⟨w.heap.size + 1, 3, none⟩ = some (.int .i64 y.Beacons) ∧ w'.cell? ⟨w.heap.size + 1, 4, none⟩ = some (.int .i64 y.Shovels) ∧ w'.cell? ⟨w.heap.size + 1, 5, none⟩ = some (.int .i64 y.Probes) ∧ w'.cell? ⟨w.heap.size + 1, 6, none⟩ = some (.int .i64 y.Skill)) ∧ Below w2.heap.size w2 w') ((refine H _ ?_; go_split_ands; exact (by repeat (first | (with_reducible assumption) | (with_reducible exact Below.refl _ _) | (with_reducible refine Bel.alloc ?_ _) | (with_reducible refine Below.drew ?_) | (with_reducible refine Bel.drewN ?_ _) | (with_reducible refine Bel.setCell ?_ (by (try simp) <;> omega) _) | (with_reducible refine Bel.trans ?_ (by assumption)))))) (first
        | (go_at_call_of 7 x; refine (toGroup_any x _).mono ?_; rintro e w' ⟨rfl, hb⟩; (try (with_reducible have BX := Box.below (Box.new _ _ _) hb)); (try (with_reducible have BX := Box.below (Box.newD _ _ _) hb)); (try (with_reducible have BX := Box.below (t := 25) (by assumption) hb)); (try ((have d0 : w'.cell? ⟨_, 0, none⟩ = some (.string ⟨#[]⟩) := BX.cell 0); (have d1 : w'.cell? ⟨_, 1, none⟩ = some (.int .i64 0) := BX.cell 1); (have d2 : w'.cell? ⟨_, 2, none⟩ = some (.int .i64 0) := BX.cell 2); (have d3 : w'.cell? ⟨_, 3, none⟩ = some (.int .i64 0) := BX.cell 3); (have d4 : w'.cell? ⟨_, 4, none⟩ = some (.int .i64 0) := BX.cell 4); (have d5 : w'.cell? ⟨_, 5, none⟩ = some (.int .i64 0) := BX.cell 5); (have d6 : w'.cell? ⟨_, 6, none⟩ = some (.int .i64 0) := BX.cell 6); (have z0 := BX.free 0); (have z1 := BX.free 1); (have z2 := BX.free 2); (have z3 := BX.free 3); (have z4 := BX.free 4); (have z5 := BX.free 5); (have z6 := BX.free 6))); have hz := hb.size; (try simp only [World.size_alloc, World.size_drew] at hz))
        | (go_at_call_of 7 y; refine (toGroup_any y _).mono ?_; rintro e w' ⟨rfl, hb⟩; (try (with_reducible have BX := Box.below (Box.new _ _ _) hb)); (try (with_reducible have BX := Box.below (Box.newD _ _ _) hb)); (try (with_reducible have BX := Box.below (t := 25) (by assumption) hb)); (try ((have d0 : w'.cell? ⟨_, 0, none⟩ = some (.string ⟨#[]⟩) := BX.cell 0); (have d1 : w'.cell? ⟨_, 1, none⟩ = some (.int .i64 0) := BX.cell 1); (have d2 : w'.cell? ⟨_, 2, none⟩ = some (.int .i64 0) := BX.cell 2); (have d3 : w'.cell? ⟨_, 3, none⟩ = some (.int .i64 0) := BX.cell 3); (have d4 : w'.cell? ⟨_, 4, none⟩ = some (.int .i64 0) := BX.cell 4); (have d5 : w'.cell? ⟨_, 5, none⟩ = some (.int .i64 0) := BX.cell 5); (have d6 : w'.cell? ⟨_, 6, none⟩ = some (.int .i64 0) := BX.cell 6); (have z0 := BX.free 0); (have z1 := BX.free 1); (have z2 := BX.free 2); (have z3 := BX.free 3); (have z4 := BX.free 4); (have z5 := BX.free 5); (have z6 := BX.free 6))); have hz := hb.size; (try simp only [World.size_alloc, World.size_drew] at hz))
        | (go_at_call 6; refine (sJoinGroups_any x y id _ hsx hsy hi).mono ?_; rintro e w' ⟨rfl, hb⟩; (try (with_reducible have BX := Box.below (Box.new _ _ _) hb)); (try (with_reducible have BX := Box.below (Box.newD _ _ _) hb)); (try (with_reducible have BX := Box.below (t := 25) (by assumption) hb)); (try ((have d0 : w'.cell? ⟨_, 0, none⟩ = some (.string ⟨#[]⟩) := BX.cell 0); (have d1 : w'.cell? ⟨_, 1, none⟩ = some (.int .i64 0) := BX.cell 1); (have d2 : w'.cell? ⟨_, 2, none⟩ = some (.int .i64 0) := BX.cell 2); (have d3 : w'.cell? ⟨_, 3, none⟩ = some (.int .i64 0) := BX.cell 3); (have d4 : w'.cell? ⟨_, 4, none⟩ = some (.int .i64 0) := BX.cell 4); (have d5 : w'.cell? ⟨_, 5, none⟩ = some (.int .i64 0) := BX.cell 5); (have d6 : w'.cell? ⟨_, 6, none⟩ = some (.int .i64 0) := BX.cell 6); (have z0 := BX.free 0); (have z1 := BX.free 1); (have z2 := BX.free 2); (have z3 := BX.free 3); (have z4 := BX.free 4); (have z5 := BX.free 5); (have z6 := BX.free 6))); have hz := hb.size; (try simp only [World.size_alloc, World.size_drew] at hz)))
    all_goals
      go_split_ands
      go_wp2_with fail
      go_meet
      refine ⟨_, rfl, rfl, ?_, (by repeat (first | (with_reducible assumption) | (with_reducible exact Below.refl _ _) | (with_reducible refine Bel.alloc ?_ _) | (with_reducible refine Below.drew ?_) | (with_reducible refine Bel.drewN ?_ _) | (with_reducible refine Bel.setCell ?_ (by (try simp) <;> omega) _) | (with_reducible refine Bel.trans ?_ (by assumption))))⟩
      first
        | (with_reducible exact Box.new _ _ _)
        | exact ((((((BX.set 0 _).set 1 _).set 2 _).set 3 _).set 4 _).set 5 _).set 6 _
  case rest =>
  obtain ⟨g8, rfl, rfl, B3, hb3⟩ := hcut
  have hbw2 := Bel.trans hbw hb3
  have B1 := HB1.out.below hb3
  have B2 := HB2.out.below hb3
  clear HB1 HB2 hbw
  have HB1 := Lib.hid B1
  have HB2 := Lib.hid B2
  have HB3 := Lib.hid B3
  clear B3 hb3
  go_upto_region 11 with fail
  go_cut [10, 11] from 34 to 42 (fun s10 s11 wx => ∃ g, s10 = .pointer (some ⟨g, 0, none⟩) ∧ s11 = .int .i64 (joinG x y id).2 ∧ Box 25 wx g #[.string (joinG x y id).1.Id, .int .i64 (joinG x y id).1.People, .int .i64 (joinG x y id).1.Guides, .int .i64 (joinG x y id).1.Beacons, .int .i64 (joinG x y id).1.Shovels, .int .i64 (joinG x y id).1.Probes, .int .i64 (joinG x y id).1.Skill] ∧ Below wc.heap.size wc wx)
  case first =>
    have c0 : wc.cell? ⟨w.heap.size, 0, none⟩ = some (.string x.Id) := B1.cell 0
    have c1 : wc.cell? ⟨w.heap.size, 1, none⟩ = some (.int .i64 x.People) := B1.cell 1
    have c2 : wc.cell? ⟨w.heap.size, 2, none⟩ = some (.int .i64 x.Guides) := B1.cell 2
    have c3 : wc.cell? ⟨w.heap.size, 3, none⟩ = some (.int .i64 x.Beacons) := B1.cell 3
    have c4 : wc.cell? ⟨w.heap.size, 4, none⟩ = some (.int .i64 x.Shovels) := B1.cell 4
    have c5 : wc.cell? ⟨w.heap.size, 5, none⟩ = some (.int .i64 x.Probes) := B1.cell 5
    have c6 : wc.cell? ⟨w.heap.size, 6, none⟩ = some (.int .i64 x.Skill) := B1.cell 6
    have f0 : wc.cell? ⟨w.heap.size + 1, 0, none⟩ = some (.string y.Id) := B2.cell 0
    have f1 : wc.cell? ⟨w.heap.size + 1, 1, none⟩ = some (.int .i64 y.People) := B2.cell 1
    have f2 : wc.cell? ⟨w.heap.size + 1, 2, none⟩ = some (.int .i64 y.Guides) := B2.cell 2
    have f3 : wc.cell? ⟨w.heap.size + 1, 3, none⟩ = some (.int .i64 y.Beacons) := B2.cell 3
    have f4 : wc.cell? ⟨w.heap.size + 1, 4, none⟩ = some (.int .i64 y.Shovels) := B2.cell 4
    have f5 : wc.cell? ⟨w.heap.size + 1, 5, none⟩ = some (.int .i64 y.Probes) := B2.cell 5
    have f6 : wc.cell? ⟨w.heap.size + 1, 6, none⟩ = some (.int .i64 y.Skill) := B2.cell 6
    have L1 := B1.lt
    have L2 := B2.lt
    clear B1 B2 HB1 HB2
    have H : ∀ w', Below wc.heap.size wc w' → (w'.cell? ⟨w.heap.size, 0, none⟩ = some (.string x.Id) ∧ w'.cell? ⟨w.heap.size, 1, none⟩ = some (.int .i64 x.People) ∧ w'.cell? ⟨w.heap.size, 2, none⟩ = some (.int .i64 x.Guides) ∧ w'.cell? ⟨w.heap.size, 3, none⟩ = some (.int .i64 x.Beacons) ∧ w'.cell? ⟨w.heap.size, 4, none⟩ = some (.int .i64 x.Shovels) ∧ w'.cell? ⟨w.heap.size, 5, none⟩ = some (.int .i64 x.Probes) ∧ w'.cell? ⟨w.heap.size, 6, none⟩ = some (.int .i64 x.Skill)) ∧ (w'.cell? ⟨w.heap.size + 1, 0, none⟩ = some (.string y.Id) ∧ w'.cell? ⟨w.heap.size + 1, 1, none⟩ = some (.int .i64 y.People) ∧ w'.cell? ⟨w.heap.size + 1, 2, none⟩ = some (.int .i64 y.Guides) ∧ w'.cell? ⟨w.heap.size + 1, 3, none⟩ = some (.int .i64 y.Beacons) ∧ w'.cell? ⟨w.heap.size + 1, 4, none⟩ = some (.int .i64 y.Shovels) ∧ w'.cell? ⟨w.heap.size + 1, 5, none⟩ = some (.int .i64 y.Probes) ∧ w'.cell? ⟨w.heap.size + 1, 6, none⟩ = some (.int .i64 y.Skill)) ∧ Below wc.heap.size wc w' := fun w' hK => ⟨⟨(hK.cell L1).trans c0, (hK.cell L1).trans c1, (hK.cell L1).trans c2, (hK.cell L1).trans c3, (hK.cell L1).trans c4, (hK.cell L1).trans c5, (hK.cell L1).trans c6⟩, ⟨(hK.cell L2).trans f0, (hK.cell L2).trans f1, (hK.cell L2).trans f2, (hK.cell L2).trans f3, (hK.cell L2).trans f4, (hK.cell L2).trans f5, (hK.cell L2).trans f6⟩, hK⟩
    go_region_held3 (fun w' => (w'.cell? ⟨w.heap.size, 0, none⟩ = some (.string x.Id) ∧ w'.cell? ⟨w.heap.size, 1, none⟩ = some (.int .i64 x.People) ∧ w'.cell? ⟨w.heap.size, 2, none⟩ = some (.int .i64 x.Guides) ∧ w'.cell? ⟨w.heap.size, 3, none⟩ = some (.int .i64 x.Beacons) ∧ w'.cell? ⟨w.heap.size, 4, none⟩ = some (.int .i64 x.Shovels) ∧ w'.cell? ⟨w.heap.size, 5, none⟩ = some (.int .i64 x.Probes) ∧ w'.cell? ⟨w.heap.size, 6, none⟩ = some (.int .i64 x.Skill)) ∧ (w'.cell? ⟨w.heap.size + 1, 0, none⟩ = some (.string y.Id) ∧ w'.cell? ⟨w.heap.size + 1, 1, none⟩ = some (.int .i64 y.People) ∧ w'.cell? ⟨w.heap.size + 1, 2, none⟩ = some (.int .i64 y.Guides) ∧ w'.cell? ⟨w.heap.size + 1, 3, none⟩ = some (.int .i64 y.Beacons) ∧ w'.cell? ⟨w.heap.size + 1, 4, none⟩ = some (.int .i64 y.Shovels) ∧ w'.cell? ⟨w.heap.size + 1, 5, none⟩ = some (.int .i64 y.Probes) ∧ w'.cell? ⟨w.heap.size + 1, 6, none⟩ = some (.int .i64 y.Skill)) ∧ Below wc.heap.size wc w') ((refine H _ ?_; go_split_ands; exact (by repeat (first | (with_reducible assumption) | (with_reducible exact Below.refl _ _) | (with_reducible refine Bel.alloc ?_ _) | (with_reducible refine Below.drew ?_) | (with_reducible refine Bel.drewN ?_ _) | (with_reducible refine Bel.setCell ?_ (by (try simp) <;> omega) _) | (with_reducible refine Bel.trans ?_ (by assumption)))))) (first
        | (go_at_call_of 7 x; refine (toGroup_any x _).mono ?_; rintro e w' ⟨rfl, hb⟩; (try (with_reducible have BX := Box.below (Box.new _ _ _) hb)); (try (with_reducible have BX := Box.below (Box.newD _ _ _) hb)); (try (with_reducible have BX := Box.below (t := 25) (by assumption) hb)); (try ((have d0 : w'.cell? ⟨_, 0, none⟩ = some (.string ⟨#[]⟩) := BX.cell 0); (have d1 : w'.cell? ⟨_, 1, none⟩ = some (.int .i64 0) := BX.cell 1); (have d2 : w'.cell? ⟨_, 2, none⟩ = some (.int .i64 0) := BX.cell 2); (have d3 : w'.cell? ⟨_, 3, none⟩ = some (.int .i64 0) := BX.cell 3); (have d4 : w'.cell? ⟨_, 4, none⟩ = some (.int .i64 0) := BX.cell 4); (have d5 : w'.cell? ⟨_, 5, none⟩ = some (.int .i64 0) := BX.cell 5); (have d6 : w'.cell? ⟨_, 6, none⟩ = some (.int .i64 0) := BX.cell 6); (have z0 := BX.free 0); (have z1 := BX.free 1); (have z2 := BX.free 2); (have z3 := BX.free 3); (have z4 := BX.free 4); (have z5 := BX.free 5); (have z6 := BX.free 6))); have hz := hb.size; (try simp only [World.size_alloc, World.size_drew] at hz))
        | (go_at_call_of 7 y; refine (toGroup_any y _).mono ?_; rintro e w' ⟨rfl, hb⟩; (try (with_reducible have BX := Box.below (Box.new _ _ _) hb)); (try (with_reducible have BX := Box.below (Box.newD _ _ _) hb)); (try (with_reducible have BX := Box.below (t := 25) (by assumption) hb)); (try ((have d0 : w'.cell? ⟨_, 0, none⟩ = some (.string ⟨#[]⟩) := BX.cell 0); (have d1 : w'.cell? ⟨_, 1, none⟩ = some (.int .i64 0) := BX.cell 1); (have d2 : w'.cell? ⟨_, 2, none⟩ = some (.int .i64 0) := BX.cell 2); (have d3 : w'.cell? ⟨_, 3, none⟩ = some (.int .i64 0) := BX.cell 3); (have d4 : w'.cell? ⟨_, 4, none⟩ = some (.int .i64 0) := BX.cell 4); (have d5 : w'.cell? ⟨_, 5, none⟩ = some (.int .i64 0) := BX.cell 5); (have d6 : w'.cell? ⟨_, 6, none⟩ = some (.int .i64 0) := BX.cell 6); (have z0 := BX.free 0); (have z1 := BX.free 1); (have z2 := BX.free 2); (have z3 := BX.free 3); (have z4 := BX.free 4); (have z5 := BX.free 5); (have z6 := BX.free 6))); have hz := hb.size; (try simp only [World.size_alloc, World.size_drew] at hz))
        | (go_at_call 8; refine (JoinGroups_any x y id _ hsx hsy hi).mono ?_; rintro e w' ⟨rfl, hb⟩; (try (with_reducible have BX := Box.below (Box.new _ _ _) hb)); (try (with_reducible have BX := Box.below (Box.newD _ _ _) hb)); (try (with_reducible have BX := Box.below (t := 25) (by assumption) hb)); (try ((have d0 : w'.cell? ⟨_, 0, none⟩ = some (.string ⟨#[]⟩) := BX.cell 0); (have d1 : w'.cell? ⟨_, 1, none⟩ = some (.int .i64 0) := BX.cell 1); (have d2 : w'.cell? ⟨_, 2, none⟩ = some (.int .i64 0) := BX.cell 2); (have d3 : w'.cell? ⟨_, 3, none⟩ = some (.int .i64 0) := BX.cell 3); (have d4 : w'.cell? ⟨_, 4, none⟩ = some (.int .i64 0) := BX.cell 4); (have d5 : w'.cell? ⟨_, 5, none⟩ = some (.int .i64 0) := BX.cell 5); (have d6 : w'.cell? ⟨_, 6, none⟩ = some (.int .i64 0) := BX.cell 6); (have z0 := BX.free 0); (have z1 := BX.free 1); (have z2 := BX.free 2); (have z3 := BX.free 3); (have z4 := BX.free 4); (have z5 := BX.free 5); (have z6 := BX.free 6))); have hz := hb.size; (try simp only [World.size_alloc, World.size_drew] at hz)))
    all_goals
      go_split_ands
      go_wp2_with fail
      go_meet
      refine ⟨_, rfl, rfl, ?_, (by repeat (first | (with_reducible assumption) | (with_reducible exact Below.refl _ _) | (with_reducible refine Bel.alloc ?_ _) | (with_reducible refine Below.drew ?_) | (with_reducible refine Bel.drewN ?_ _) | (with_reducible refine Bel.setCell ?_ (by (try simp) <;> omega) _) | (with_reducible refine Bel.trans ?_ (by assumption))))⟩
      first
        | (with_reducible exact Box.new _ _ _)
        | exact ((((((BX.set 0 _).set 1 _).set 2 _).set 3 _).set 4 _).set 5 _).set 6 _
  case rest =>
  obtain ⟨g10, rfl, rfl, B4, hb4⟩ := hcut
  have hbw3 := Bel.trans hbw2 hb4
  have B3 := HB3.out.below hb4
  clear HB1 HB2 HB3 hbw2 hb4
  have d0 : wc.cell? ⟨g8, 0, none⟩ = some (.string (joinG x y id).1.Id) := B3.cell 0
  have d1 : wc.cell? ⟨g8, 1, none⟩ = some (.int .i64 (joinG x y id).1.People) := B3.cell 1
  have d2 : wc.cell? ⟨g8, 2, none⟩ = some (.int .i64 (joinG x y id).1.Guides) := B3.cell 2
  have d3 : wc.cell? ⟨g8, 3, none⟩ = some (.int .i64 (joinG x y id).1.Beacons) := B3.cell 3
  have d4 : wc.cell? ⟨g8, 4, none⟩ = some (.int .i64 (joinG x y id).1.Shovels) := B3.cell 4
  have d5 : wc.cell? ⟨g8, 5, none⟩ = some (.int .i64 (joinG x y id).1.Probes) := B3.cell 5
  have d6 : wc.cell? ⟨g8, 6, none⟩ = some (.int .i64 (joinG x y id).1.Skill) := B3.cell 6
  have c0 : wc.cell? ⟨g10, 0, none⟩ = some (.string (joinG x y id).1.Id) := B4.cell 0
  have c1 : wc.cell? ⟨g10, 1, none⟩ = some (.int .i64 (joinG x y id).1.People) := B4.cell 1
  have c2 : wc.cell? ⟨g10, 2, none⟩ = some (.int .i64 (joinG x y id).1.Guides) := B4.cell 2
  have c3 : wc.cell? ⟨g10, 3, none⟩ = some (.int .i64 (joinG x y id).1.Beacons) := B4.cell 3
  have c4 : wc.cell? ⟨g10, 4, none⟩ = some (.int .i64 (joinG x y id).1.Shovels) := B4.cell 4
  have c5 : wc.cell? ⟨g10, 5, none⟩ = some (.int .i64 (joinG x y id).1.Probes) := B4.cell 5
  have c6 : wc.cell? ⟨g10, 6, none⟩ = some (.int .i64 (joinG x y id).1.Skill) := B4.cell 6
  clear B1 B2 B3 B4
  go_wp2_with fail
  refine (eqGroup_any (joinG x y id).1 _).mono ?_
  rintro e w10 ⟨rfl, hb10⟩
  go_wp2
  go_ret
  exact ⟨rfl, Bel.trans hbw3 hb10⟩
end Go.Proofs.Ytgannknkohomdaa
