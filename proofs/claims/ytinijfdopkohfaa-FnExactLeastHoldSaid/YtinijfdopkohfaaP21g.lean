/- FnExactLeastHold: for every input the law answers true and leaves its arguments alone. No condition. -/
import Derived.Test.YtinijfdopkohfaaL21g
import Derived.Test.YtinijfdopkohfaaLTGate
import Derived.Test.YtinijfdopkohfaaLTInts
namespace Go.Proofs.Ytinijfdopkohfaa
set_option linter.unusedSimpArgs false
set_option linter.unusedVariables false
open Go.RowKit
set_option maxHeartbeats 400000
theorem lawFnExactLeastHold (x0 : SGate) (A1 : Option Addr) (c1 : Nat) (xs1 : List Int) (x2 : Int) (w : World) (f0 : x0.fits) (h1 : ArgS intc 1 w A1 xs1) (n1 : xs1.length ≤ 9223372036854775807) (g2 : -9223372036854775808 ≤ x2) (g2' : x2 ≤ 9223372036854775807) :
    Calls Try.prog 7 #[.agg #[.string x0.Id, .int .i64 x0.Shut, .int .i64 x0.Open, .int .i64 x0.Hold, .bool x0.Shuts, .int .i64 x0.Calm], .slice A1 xs1.length c1, .int .i64 x2] w fun e w' => e = .returned (.bool true) ∧ Below w.heap.size w w' := by
  have H1 := Lib.hid h1
  clear h1
  have hs0 := SGate.sizes f0
  have HX0 := Lib.hid f0
  clear f0
  by_cases hl1 : 1048576 < xs1.length
  · go_enter Try.func7, Try.ntmps7
    go_wp2
    go_ret
    exact ⟨rfl, (by repeat (first | (with_reducible assumption) | (with_reducible exact Below.refl _ _) | (with_reducible refine Bel.alloc ?_ _) | (with_reducible refine Below.drew ?_) | (with_reducible refine Bel.drewN ?_ _) | (with_reducible refine Bel.setCell ?_ (by (try simp) <;> omega) _) | (with_reducible refine Bel.trans ?_ (by assumption))))⟩
  have hN1 : xs1.length ≤ 1048576 := by omega
  go_enter Try.func7, Try.ntmps7
  have hb := Below.refl w.heap.size w
  go_wp2_with fail
  refine calls_box_out ?_
  intro W hbw B0
  have hb := Bel.trans hb hbw
  have hs_0 : w.heap.size ≤ W.heap.size := hbw.size
  clear hbw
  have hlB0_ := B0.lt
  refine (szGate_any x0 _ _ hs0 (by omega) (by omega)).mono ?_
  rintro e u0 ⟨⟨r0, rfl, hr0_1, hr0_2, hr0_3⟩, hb0⟩
  have B0 := B0.below hb0
  have hs0_ : W.heap.size ≤ u0.heap.size := hb0.size
  have hb := Bel.trans hb hb0
  clear hb0
  by_cases hr0 : r0 < 0
  · go_wp2
    go_ret
    exact ⟨rfl, hb⟩
  have hr0_0 : 0 ≤ r0 := by omega
  have e0_0 : u0.cell? ⟨w.heap.size, 0, none⟩ = some (.string x0.Id) := B0.cell 0
  have e0_1 : u0.cell? ⟨w.heap.size, 1, none⟩ = some (.int .i64 x0.Shut) := B0.cell 1
  have e0_2 : u0.cell? ⟨w.heap.size, 2, none⟩ = some (.int .i64 x0.Open) := B0.cell 2
  have e0_3 : u0.cell? ⟨w.heap.size, 3, none⟩ = some (.int .i64 x0.Hold) := B0.cell 3
  have e0_4 : u0.cell? ⟨w.heap.size, 4, none⟩ = some (.bool x0.Shuts) := B0.cell 4
  have e0_5 : u0.cell? ⟨w.heap.size, 5, none⟩ = some (.int .i64 x0.Calm) := B0.cell 5
  go_wp2_with fail
  refine (toGate_any x0 _).mono ?_
  rintro e u1 ⟨rfl, hb1⟩
  have B0 := B0.below hb1
  have hs1_ : u0.heap.size ≤ u1.heap.size := hb1.size
  have hb := Bel.trans hb hb1
  clear hb1
  clear e0_0 e0_1 e0_2 e0_3 e0_4 e0_5
  go_wp2_with fail
  refine (toInt64S_any _ _ xs1 _ (H1.out.below hb) hN1).mono ?_
  rintro e u2 ⟨rfl, hb2, O1⟩
  have B0 := B0.below hb2
  have hs2_ : u1.heap.size ≤ u2.heap.size := hb2.size
  have hl2_ : u1.heap.size < u2.heap.size := O1.arr.1
  have hb := Bel.trans hb hb2
  clear hb2
  go_wp2_with fail
  refine (sLeastHold_any x0 xs1 _ _ x2 _ O1.arr hN1 hs0).mono ?_
  rintro e u3 ⟨rfl, hb3⟩
  have B0 := B0.below hb3
  have O1 := O1.below hb3
  have hs3_ : u2.heap.size ≤ u3.heap.size := hb3.size
  have hb := Bel.trans hb hb3
  clear hb3
  clear O1
  go_wp2_with fail
  refine (toInt64S_any _ _ xs1 _ (H1.out.below hb) hN1).mono ?_
  rintro e u4 ⟨rfl, hb4, O1⟩
  have B0 := B0.below hb4
  have hs4_ : u3.heap.size ≤ u4.heap.size := hb4.size
  have hl4_ : u3.heap.size < u4.heap.size := O1.arr.1
  have hb := Bel.trans hb hb4
  clear hb4
  have e0_0 : u4.cell? ⟨w.heap.size, 0, none⟩ = some (.string x0.Id) := B0.cell 0
  have e0_1 : u4.cell? ⟨w.heap.size, 1, none⟩ = some (.int .i64 x0.Shut) := B0.cell 1
  have e0_2 : u4.cell? ⟨w.heap.size, 2, none⟩ = some (.int .i64 x0.Open) := B0.cell 2
  have e0_3 : u4.cell? ⟨w.heap.size, 3, none⟩ = some (.int .i64 x0.Hold) := B0.cell 3
  have e0_4 : u4.cell? ⟨w.heap.size, 4, none⟩ = some (.bool x0.Shuts) := B0.cell 4
  have e0_5 : u4.cell? ⟨w.heap.size, 5, none⟩ = some (.int .i64 x0.Calm) := B0.cell 5
  go_wp2_with fail
  refine (toGate_any x0 _).mono ?_
  rintro e u5 ⟨rfl, hb5⟩
  have B0 := B0.below hb5
  have O1 := O1.below hb5
  have hs5_ : u4.heap.size ≤ u5.heap.size := hb5.size
  have hb := Bel.trans hb hb5
  clear hb5
  clear e0_0 e0_1 e0_2 e0_3 e0_4 e0_5
  clear B0
  go_wp2_with fail
  refine (LeastHold_any x0 xs1 _ _ x2 _ O1.arr hN1 hs0).mono ?_
  rintro e u6 ⟨rfl, hb6⟩
  have O1 := O1.below hb6
  have hs6_ : u5.heap.size ≤ u6.heap.size := hb6.size
  have hb := Bel.trans hb hb6
  clear hb6
  go_wp2_with fail
  refine (toInt64S_any _ _ xs1 _ (H1.out.below hb) hN1).mono ?_
  rintro e u7 ⟨rfl, hb7, Q⟩
  have O1 := O1.below hb7
  have hb := Bel.trans hb hb7
  clear hb7
  go_wp2_with fail
  refine (eqInt64S_any _ _ _ _ xs1 _ O1.argS Q.argS (by omega)).mono ?_
  rintro e u8 ⟨rfl, hb8⟩
  have hs8_ : u7.heap.size ≤ u8.heap.size := hb8.size
  have hb := Bel.trans hb hb8
  clear hb8
  clear Q O1
  go_wp2
  go_ret
  exact ⟨rfl, hb⟩
end Go.Proofs.Ytinijfdopkohfaa
