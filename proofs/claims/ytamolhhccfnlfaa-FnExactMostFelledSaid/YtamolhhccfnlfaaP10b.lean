/- FnExactMostFelled: for every input the law answers true. No condition. -/
import Derived.Test.YtamolhhccfnlfaaL10b
import Derived.Test.YtamolhhccfnlfaaLTStand
namespace Go.Proofs.Ytamolhhccfnlfaa
open Go.RowKit
set_option maxHeartbeats 400000
theorem lawFnExactMostFelled (x : SStand) (a b : Int) (w : World) (hf : x.fits) (_g1 : -9223372036854775808 ≤ a) (_g1' : a ≤ 9223372036854775807) (_g2 : -9223372036854775808 ≤ b) (_g2' : b ≤ 9223372036854775807) :
    Calls Try.prog 5 #[.agg #[.string x.Id, .int .i64 x.Trees, .int .i64 x.Height, .int .i64 x.Cover, .int .i64 x.Gap], .int .i64 a, .int .i64 b] w fun e w' => e = .returned (.bool true) ∧ Below w.heap.size w w' := by
  have hsz := SStand.sizes hf
  have HF := Lib.hid hf
  clear hf
  go_enter Try.func5, Try.ntmps5
  go_wp2_with fail
  refine calls_box_out ?_
  intro W hbw B1
  refine (szStand_any x 1048576 _ hsz (by omega) (by omega)).mono ?_
  rintro e w1 ⟨⟨r1, rfl, hr1, hr2, hr3⟩, hb1⟩
  have hbw := Bel.trans hbw hb1
  have B1 := B1.below hb1
  have c0 : w1.cell? ⟨w.heap.size, 0, none⟩ = some (.string x.Id) := B1.cell 0
  have c1 : w1.cell? ⟨w.heap.size, 1, none⟩ = some (.int .i64 x.Trees) := B1.cell 1
  have c2 : w1.cell? ⟨w.heap.size, 2, none⟩ = some (.int .i64 x.Height) := B1.cell 2
  have c3 : w1.cell? ⟨w.heap.size, 3, none⟩ = some (.int .i64 x.Cover) := B1.cell 3
  have c4 : w1.cell? ⟨w.heap.size, 4, none⟩ = some (.int .i64 x.Gap) := B1.cell 4
  clear hb1
  by_cases hr : r1 < 0
  · go_wp2
    go_ret
    exact ⟨rfl, hbw⟩
  have hr0 : 0 ≤ r1 := by omega
  go_wp2_with fail
  refine (toStand_any x _).mono ?_
  rintro e w2 ⟨rfl, hb2⟩
  have hbw := Bel.trans hbw hb2
  have B1 := B1.below hb2
  clear c0 c1 c2 c3 c4 hb2
  go_wp2_with fail
  refine (sMostFelled_any x a b _ hsz).mono ?_
  rintro e w3 ⟨rfl, hb3⟩
  have hbw := Bel.trans hbw hb3
  have B1 := B1.below hb3
  have c0 : w3.cell? ⟨w.heap.size, 0, none⟩ = some (.string x.Id) := B1.cell 0
  have c1 : w3.cell? ⟨w.heap.size, 1, none⟩ = some (.int .i64 x.Trees) := B1.cell 1
  have c2 : w3.cell? ⟨w.heap.size, 2, none⟩ = some (.int .i64 x.Height) := B1.cell 2
  have c3 : w3.cell? ⟨w.heap.size, 3, none⟩ = some (.int .i64 x.Cover) := B1.cell 3
  have c4 : w3.cell? ⟨w.heap.size, 4, none⟩ = some (.int .i64 x.Gap) := B1.cell 4
  clear hb3
  go_wp2_with fail
  refine (toStand_any x _).mono ?_
  rintro e w4 ⟨rfl, hb4⟩
  go_wp2_with fail
  refine (MostFelled_any x a b _ hsz).mono ?_
  rintro e w5 ⟨rfl, hb5⟩
  go_wp2
  go_ret
  exact ⟨rfl, Bel.trans (Bel.trans hbw hb4) hb5⟩
end Go.Proofs.Ytamolhhccfnlfaa
