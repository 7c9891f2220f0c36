/- FnExactSplitGroup: for every input the law answers true and leaves its arguments alone. No condition. -/
import Derived.Test.YtfbnckgfgaddkaaL24u
import Derived.Test.YtfbnckgfgaddkaaLTGroup
import Derived.Test.YtfbnckgfgaddkaaRXGroup
namespace Go.Proofs.Ytfbnckgfgaddkaa
set_option linter.unusedSimpArgs false
set_option linter.unusedVariables false
open Go.RowKit
set_option maxHeartbeats 400000
theorem lawFnExactSplitGroup (x0 : SGroup) (x1 : Int) (w : World) (f0 : x0.fits) (g1 : -9223372036854775808 ≤ x1) (g1' : x1 ≤ 9223372036854775807) :
    Calls Try.prog 4 #[.agg #[.string x0.Id, .int .i64 x0.People, .int .i64 x0.Guides, .int .i64 x0.Beacons, .int .i64 x0.Shovels, .int .i64 x0.Probes, .int .i64 x0.Skill], .int .i64 x1] w fun e w' => e = .returned (.bool true) ∧ Below w.heap.size w w' := by
  have hs0 := SGroup.sizes f0
  have HX0 := Lib.hid f0
  clear f0
  go_enter Try.func4, Try.ntmps4
  have hb := Below.refl w.heap.size w
  go_wp2_with fail
  refine calls_box_out ?_
  intro W hbw B0
  have hb := Bel.trans hb hbw
  have hs_0 : w.heap.size ≤ W.heap.size := hbw.size
  clear hbw
  have hlB0_ := B0.lt
  refine (szGroup_any x0 _ _ hs0 (by omega) (by omega)).mono ?_
  rintro e u0 ⟨⟨r0, rfl, hr0_1, hr0_2, hr0_3⟩, hb0⟩
  have B0 := B0.below hb0
  have hs0_ : W.heap.size ≤ u0.heap.size := hb0.size
  have hb := Bel.trans hb hb0
  clear hb0
  by_cases hr0 : r0 < 0
  · go_wp2
    go_ret
    exact ⟨rfl, hb⟩
  have hr0_0 : 0 ≤ r0 := by omega
  have e0_0 : u0.cell? ⟨w.heap.size, 0, none⟩ = some (.string x0.Id) := B0.cell 0
  have e0_1 : u0.cell? ⟨w.heap.size, 1, none⟩ = some (.int .i64 x0.People) := B0.cell 1
  have e0_2 : u0.cell? ⟨w.heap.size, 2, none⟩ = some (.int .i64 x0.Guides) := B0.cell 2
  have e0_3 : u0.cell? ⟨w.heap.size, 3, none⟩ = some (.int .i64 x0.Beacons) := B0.cell 3
  have e0_4 : u0.cell? ⟨w.heap.size, 4, none⟩ = some (.int .i64 x0.Shovels) := B0.cell 4
  have e0_5 : u0.cell? ⟨w.heap.size, 5, none⟩ = some (.int .i64 x0.Probes) := B0.cell 5
  have e0_6 : u0.cell? ⟨w.heap.size, 6, none⟩ = some (.int .i64 x0.Skill) := B0.cell 6
  go_wp2_with fail
  refine (toGroup_any x0 _).mono ?_
  rintro e u1 ⟨rfl, hb1⟩
  have B0 := B0.below hb1
  have hs1_ : u0.heap.size ≤ u1.heap.size := hb1.size
  have hb := Bel.trans hb hb1
  clear hb1
  clear e0_0 e0_1 e0_2 e0_3 e0_4 e0_5 e0_6
  go_wp2_with fail
  refine (sSplitGroup_any x0 x1 _ hs0).mono ?_
  rintro e u2 ⟨⟨v0, rfl, R0⟩, hb2⟩
  have B0 := B0.below hb2
  have hs2_ : u1.heap.size ≤ u2.heap.size := hb2.size
  have hb := Bel.trans hb hb2
  clear hb2
  have hL : (spRes x0 x1).1.length ≤ 1048576 := Nat.le_trans spRes_len (by omega)
  obtain ⟨D0, d0, rfl, _⟩ := R0.form (fun _ => rfl)
  have o0 : ∀ g, (Value.slice D0 (spRes x0 x1).1.length d0).ownBlock = some g → g < u2.heap.size := fun g h => R0.own_lt h
  have O0L := Lib.hid o0
  clear o0
  have e0_0 : u2.cell? ⟨w.heap.size, 0, none⟩ = some (.string x0.Id) := B0.cell 0
  have e0_1 : u2.cell? ⟨w.heap.size, 1, none⟩ = some (.int .i64 x0.People) := B0.cell 1
  have e0_2 : u2.cell? ⟨w.heap.size, 2, none⟩ = some (.int .i64 x0.Guides) := B0.cell 2
  have e0_3 : u2.cell? ⟨w.heap.size, 3, none⟩ = some (.int .i64 x0.Beacons) := B0.cell 3
  have e0_4 : u2.cell? ⟨w.heap.size, 4, none⟩ = some (.int .i64 x0.Shovels) := B0.cell 4
  have e0_5 : u2.cell? ⟨w.heap.size, 5, none⟩ = some (.int .i64 x0.Probes) := B0.cell 5
  have e0_6 : u2.cell? ⟨w.heap.size, 6, none⟩ = some (.int .i64 x0.Skill) := B0.cell 6
  go_wp2_with fail
  refine (toGroup_any x0 _).mono ?_
  rintro e u3 ⟨rfl, hb3⟩
  have B0 := B0.below hb3
  have R0 := R0.below hb3
  have hs3_ : u2.heap.size ≤ u3.heap.size := hb3.size
  have hb := Bel.trans hb hb3
  clear hb3
  clear e0_0 e0_1 e0_2 e0_3 e0_4 e0_5 e0_6
  go_wp2_with fail
  refine (SplitGroup_any x0 x1 _ hs0).mono ?_
  rintro e u4 ⟨⟨v1, rfl, R1⟩, hb4⟩
  have B0 := B0.below hb4
  have R0 := R0.below hb4
  have hs4_ : u3.heap.size ≤ u4.heap.size := hb4.size
  have hb := Bel.trans hb hb4
  clear hb4
  obtain ⟨D1, d1, rfl, _⟩ := R1.form (fun _ => rfl)
  have o1 : ∀ g, (Value.slice D1 (spRes x0 x1).1.length d1).ownBlock = some g → u3.heap.size ≤ g := fun g h => R1.own_ge h
  have O1L := Lib.hid o1
  clear o1
  go_wp2_with fail
  refine (eqGroupS_arg _ _ _ _ _ _ (R1.argS fun _ => rfl) (R0.argS fun _ => rfl) (by omega)).mono ?_
  rintro e u5 ⟨rfl, hb5⟩
  have B0 := B0.below hb5
  have R0 := R0.below hb5
  have R1 := R1.below hb5
  have hs5_ : u4.heap.size ≤ u5.heap.size := hb5.size
  have hb := Bel.trans hb hb5
  clear hb5
  go_wp2_with fail
  refine (markGroupS_row _ _ 1 _ _ R1 (by omega) (by omega) (by omega)).mono ?_
  rintro e u6 ⟨rfl, M, hg6⟩
  have R0 := R0.grownO hg6 (fun g h h' => absurd (O1L.out _ h') (by have := O0L.out _ h; omega))
  have hb := hb.trans ((Below.refl w.heap.size u5).grown hg6 (by omega) (fun g h => by have := O1L.out _ h; omega))
  have hs6_ : u5.heap.size ≤ u6.heap.size := hg6.size
  have B0 := Box.grownO B0 hg6 (fun h => by have := O1L.out _ h; omega)
  clear hg6 R1
  go_wp2_with fail
  refine (heldGroupS_any _ _ _ 1 _ (M.argS fun _ => rfl) (by omega) (by omega) (by omega)).mono ?_
  rintro e u7 ⟨rfl, hb7⟩
  have B0 := B0.below hb7
  have R0 := R0.below hb7
  have M := M.below hb7
  have hs7_ : u6.heap.size ≤ u7.heap.size := hb7.size
  have hb := Bel.trans hb hb7
  clear hb7
  have e0_0 : u7.cell? ⟨w.heap.size, 0, none⟩ = some (.string x0.Id) := B0.cell 0
  have e0_1 : u7.cell? ⟨w.heap.size, 1, none⟩ = some (.int .i64 x0.People) := B0.cell 1
  have e0_2 : u7.cell? ⟨w.heap.size, 2, none⟩ = some (.int .i64 x0.Guides) := B0.cell 2
  have e0_3 : u7.cell? ⟨w.heap.size, 3, none⟩ = some (.int .i64 x0.Beacons) := B0.cell 3
  have e0_4 : u7.cell? ⟨w.heap.size, 4, none⟩ = some (.int .i64 x0.Shovels) := B0.cell 4
  have e0_5 : u7.cell? ⟨w.heap.size, 5, none⟩ = some (.int .i64 x0.Probes) := B0.cell 5
  have e0_6 : u7.cell? ⟨w.heap.size, 6, none⟩ = some (.int .i64 x0.Skill) := B0.cell 6
  go_wp2_with fail
  refine (toGroup_any x0 _).mono ?_
  rintro e u8 ⟨rfl, hb8⟩
  have B0 := B0.below hb8
  have R0 := R0.below hb8
  have M := M.below hb8
  have hs8_ : u7.heap.size ≤ u8.heap.size := hb8.size
  have hb := Bel.trans hb hb8
  clear hb8
  clear e0_0 e0_1 e0_2 e0_3 e0_4 e0_5 e0_6
  go_wp2_with fail
  refine (SplitGroup_any x0 x1 _ hs0).mono ?_
  rintro e u9 ⟨⟨v2, rfl, R2⟩, hb9⟩
  have B0 := B0.below hb9
  have R0 := R0.below hb9
  have M := M.below hb9
  have hs9_ : u8.heap.size ≤ u9.heap.size := hb9.size
  have hb := Bel.trans hb hb9
  clear hb9
  clear B0
  obtain ⟨D2, d2, rfl, _⟩ := R2.form (fun _ => rfl)
  go_wp2_with fail
  refine (eqGroupS_arg _ _ _ _ _ _ (R2.argS fun _ => rfl) (R0.argS fun _ => rfl) (by omega)).mono ?_
  rintro e u10 ⟨rfl, hb10⟩
  have M := M.below hb10
  have hs10_ : u9.heap.size ≤ u10.heap.size := hb10.size
  have hb := Bel.trans hb hb10
  clear hb10
  clear R0 R2
  go_wp2_with fail
  refine (heldGroupS_any _ _ _ 1 _ (M.argS fun _ => rfl) (by omega) (by omega) (by omega)).mono ?_
  rintro e u11 ⟨rfl, hb11⟩
  have hs11_ : u10.heap.size ≤ u11.heap.size := hb11.size
  have hb := Bel.trans hb hb11
  clear hb11
  clear M
  go_wp2
  go_ret
  exact ⟨rfl, hb⟩
end Go.Proofs.Ytfbnckgfgaddkaa
