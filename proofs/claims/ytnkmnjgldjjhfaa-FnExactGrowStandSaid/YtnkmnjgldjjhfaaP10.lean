/- The laws of chapter 10 (forest): for every input each answers true. No condition. -/
import Derived.Test.YtnkmnjgldjjhfaaL10
import Derived.Test.YtnkmnjgldjjhfaaLTStand
namespace Go.Proofs.Ytnkmnjgldjjhfaa
open Go.RowKit
set_option maxHeartbeats 400000
theorem lawFnExactYearsUntil (x : SStand) (a b : Int) (w : World) (hf : x.fits) (_g1 : -9223372036854775808 ≤ a) (_g1' : a ≤ 9223372036854775807) (_g2 : -9223372036854775808 ≤ b) (_g2' : b ≤ 9223372036854775807) :
    Calls Try.prog 8 #[.agg #[.string x.Id, .int .i64 x.Trees, .int .i64 x.Height, .int .i64 x.Cover, .int .i64 x.Gap], .int .i64 a, .int .i64 b] w fun e w' => e = .returned (.bool true) ∧ Below w.heap.size w w' := by
  have hsz := SStand.sizes hf
  have HF := Lib.hid hf
  clear hf
  go_enter Try.func8, Try.ntmps8
  go_wp2_with fail
  refine calls_box_out ?_
  intro W hbw B1
  refine (szStand_any x 1048576 _ hsz (by omega) (by omega)).mono ?_
  rintro e w1 ⟨⟨r1, rfl, hr1, hr2, hr3⟩, hb1⟩
  have hbw := Bel.trans hbw hb1
  have B1 := B1.below hb1
  have c0 : w1.cell? ⟨w.heap.size, 0, none⟩ = some (.string x.Id) := B1.cell 0
  have c1 : w1.cell? ⟨w.heap.size, 1, none⟩ = some (.int .i64 x.Trees) := B1.cell 1
  have c2 : w1.cell? ⟨w.heap.size, 2, none⟩ = some (.int .i64 x.Height) := B1.cell 2
  have c3 : w1.cell? ⟨w.heap.size, 3, none⟩ = some (.int .i64 x.Cover) := B1.cell 3
  have c4 : w1.cell? ⟨w.heap.size, 4, none⟩ = some (.int .i64 x.Gap) := B1.cell 4
  clear hb1
  by_cases hr : r1 < 0
  · go_wp2
    go_ret
    exact ⟨rfl, hbw⟩
  have hr0 : 0 ≤ r1 := by omega
  go_wp2_with fail
  refine (toStand_any x _).mono ?_
  rintro e w2 ⟨rfl, hb2⟩
  have hbw := Bel.trans hbw hb2
  have B1 := B1.below hb2
  clear c0 c1 c2 c3 c4 hb2
  go_wp2_with fail
  refine (sYearsUntil_any x a b _ hsz).mono ?_
  rintro e w3 ⟨rfl, hb3⟩
  have hbw := Bel.trans hbw hb3
  have B1 := B1.below hb3
  have c0 : w3.cell? ⟨w.heap.size, 0, none⟩ = some (.string x.Id) := B1.cell 0
  have c1 : w3.cell? ⟨w.heap.size, 1, none⟩ = some (.int .i64 x.Trees) := B1.cell 1
  have c2 : w3.cell? ⟨w.heap.size, 2, none⟩ = some (.int .i64 x.Height) := B1.cell 2
  have c3 : w3.cell? ⟨w.heap.size, 3, none⟩ = some (.int .i64 x.Cover) := B1.cell 3
  have c4 : w3.cell? ⟨w.heap.size, 4, none⟩ = some (.int .i64 x.Gap) := B1.cell 4
  clear hb3
  go_wp2_with fail
  refine (toStand_any x _).mono ?_
  rintro e w4 ⟨rfl, hb4⟩
  go_wp2_with fail
  refine (YearsUntil_any x a b _ hsz).mono ?_
  rintro e w5 ⟨rfl, hb5⟩
  go_wp2
  go_ret
  exact ⟨rfl, Bel.trans (Bel.trans hbw hb4) hb5⟩
theorem lawFnExactGrowStand (x : SStand) (a : Int) (w : World) (hf : x.fits) (_g1 : -9223372036854775808 ≤ a) (_g1' : a ≤ 9223372036854775807) :
    Calls Try.prog 3 #[.agg #[.string x.Id, .int .i64 x.Trees, .int .i64 x.Height, .int .i64 x.Cover, .int .i64 x.Gap], .int .i64 a] w fun e w' => e = .returned (.bool true) ∧ Below w.heap.size w w' := by
  have hsz := SStand.sizes hf
  have HF := Lib.hid hf
  clear hf
  go_enter Try.func3, Try.ntmps3
  go_wp2_with fail
  refine calls_box_out ?_
  intro W hbw B1
  refine (szStand_any x 1048576 _ hsz (by omega) (by omega)).mono ?_
  rintro e w1 ⟨⟨r1, rfl, hr1, hr2, hr3⟩, hb1⟩
  have hbw := Bel.trans hbw hb1
  have B1 := B1.below hb1
  have c0 : w1.cell? ⟨w.heap.size, 0, none⟩ = some (.string x.Id) := B1.cell 0
  have c1 : w1.cell? ⟨w.heap.size, 1, none⟩ = some (.int .i64 x.Trees) := B1.cell 1
  have c2 : w1.cell? ⟨w.heap.size, 2, none⟩ = some (.int .i64 x.Height) := B1.cell 2
  have c3 : w1.cell? ⟨w.heap.size, 3, none⟩ = some (.int .i64 x.Cover) := B1.cell 3
  have c4 : w1.cell? ⟨w.heap.size, 4, none⟩ = some (.int .i64 x.Gap) := B1.cell 4
  clear hb1
  by_cases hr : r1 < 0
  · go_wp2
    go_ret
    exact ⟨rfl, hbw⟩
  have hr0 : 0 ≤ r1 := by omega
  go_wp2_with fail
  refine (toStand_any x _).mono ?_
  rintro e w2 ⟨rfl, hb2⟩
  have hbw := Bel.trans hbw hb2
  have B1 := B1.below hb2
  clear c0 c1 c2 c3 c4 hb2
  go_wp2_with fail
  refine (sGrowStand_any x a _ hsz).mono ?_
  rintro e w3 ⟨rfl, hb3⟩
  have hbw := Bel.trans hbw hb3
  have B1 := B1.below hb3
  have c0 : w3.cell? ⟨w.heap.size, 0, none⟩ = some (.string x.Id) := B1.cell 0
  have c1 : w3.cell? ⟨w.heap.size, 1, none⟩ = some (.int .i64 x.Trees) := B1.cell 1
  have c2 : w3.cell? ⟨w.heap.size, 2, none⟩ = some (.int .i64 x.Height) := B1.cell 2
  have c3 : w3.cell? ⟨w.heap.size, 3, none⟩ = some (.int .i64 x.Cover) := B1.cell 3
  have c4 : w3.cell? ⟨w.heap.size, 4, none⟩ = some (.int .i64 x.Gap) := B1.cell 4
  clear hb3
  have hl3 := B1.lt
  go_wp2_with fail
  refine calls_box_out ?_
  intro W4 hb4 B2
  refine (toStand_any x _).mono ?_
  rintro e w5 ⟨rfl, hb5⟩
  go_wp2_with fail
  refine (GrowStand_any x a _ hsz).mono ?_
  rintro e w6 ⟨rfl, hb6⟩
  have B2 := (B2.below hb5).below hb6
  have hbw := Bel.trans (Bel.trans (Bel.trans hbw hb4) hb5) hb6
  have d0 : w6.cell? ⟨w3.heap.size, 0, none⟩ = some (.string (growStand x a).1.Id) := B2.cell 0
  have d1 : w6.cell? ⟨w3.heap.size, 1, none⟩ = some (.int .i64 (growStand x a).1.Trees) := B2.cell 1
  have d2 : w6.cell? ⟨w3.heap.size, 2, none⟩ = some (.int .i64 (growStand x a).1.Height) := B2.cell 2
  have d3 : w6.cell? ⟨w3.heap.size, 3, none⟩ = some (.int .i64 (growStand x a).1.Cover) := B2.cell 3
  have d4 : w6.cell? ⟨w3.heap.size, 4, none⟩ = some (.int .i64 (growStand x a).1.Gap) := B2.cell 4
  have hl6 := B2.lt
  clear c0 c1 c2 c3 c4 hl3
  go_wp2_with fail
  refine (eqStand_any (growStand x a).1 _).mono ?_
  rintro e w7 ⟨rfl, hb7⟩
  go_wp2
  go_ret
  exact ⟨rfl, Bel.trans (Bel.alloc hbw _) hb7⟩
end Go.Proofs.Ytnkmnjgldjjhfaa
