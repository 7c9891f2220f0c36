/- The laws of chapter 21 (in which hours a gate is shut): for every input each answers true and leaves its arguments alone. No condition. -/
import Derived.Test.YtinijfdopkohfaaL21f
import Derived.Test.YtinijfdopkohfaaLTGate
import Derived.Test.YtinijfdopkohfaaLTInts
import Derived.Test.YtinijfdopkohfaaLTBools
namespace Go.Proofs.Ytinijfdopkohfaa
set_option linter.unusedSimpArgs false
set_option linter.unusedVariables false
open Go.RowKit
set_option maxHeartbeats 400000
theorem lawFnExactShutHours (x0 : SGate) (A1 : Option Addr) (c1 : Nat) (xs1 : List Int) (w : World) (f0 : x0.fits) (h1 : ArgS intc 1 w A1 xs1) (n1 : xs1.length ≤ 9223372036854775807) :
    Calls Try.prog 10 #[.agg #[.string x0.Id, .int .i64 x0.Shut, .int .i64 x0.Open, .int .i64 x0.Hold, .bool x0.Shuts, .int .i64 x0.Calm], .slice A1 xs1.length c1] w fun e w' => e = .returned (.bool true) ∧ Below w.heap.size w w' := by
  have H1 := Lib.hid h1
  clear h1
  have hs0 := SGate.sizes f0
  have HX0 := Lib.hid f0
  clear f0
  by_cases hl1 : 1048576 < xs1.length
  · go_enter Try.func10, Try.ntmps10
    go_wp2
    go_ret
    exact ⟨rfl, (by repeat (first | (with_reducible assumption) | (with_reducible exact Below.refl _ _) | (with_reducible refine Bel.alloc ?_ _) | (with_reducible refine Below.drew ?_) | (with_reducible refine Bel.drewN ?_ _) | (with_reducible refine Bel.setCell ?_ (by (try simp) <;> omega) _) | (with_reducible refine Bel.trans ?_ (by assumption))))⟩
  have hN1 : xs1.length ≤ 1048576 := by omega
  go_enter Try.func10, Try.ntmps10
  have hb := Below.refl w.heap.size w
  go_wp2_with fail
  refine calls_box_out ?_
  intro W hbw B0
  have hb := Bel.trans hb hbw
  have hs_0 : w.heap.size ≤ W.heap.size := hbw.size
  clear hbw
  have hlB0_ := B0.lt
  refine (szGate_any x0 _ _ hs0 (by omega) (by omega)).mono ?_
  rintro e u0 ⟨⟨r0, rfl, hr0_1, hr0_2, hr0_3⟩, hb0⟩
  have B0 := B0.below hb0
  have hs0_ : W.heap.size ≤ u0.heap.size := hb0.size
  have hb := Bel.trans hb hb0
  clear hb0
  by_cases hr0 : r0 < 0
  · go_wp2
    go_ret
    exact ⟨rfl, hb⟩
  have hr0_0 : 0 ≤ r0 := by omega
  have e0_0 : u0.cell? ⟨w.heap.size, 0, none⟩ = some (.string x0.Id) := B0.cell 0
  have e0_1 : u0.cell? ⟨w.heap.size, 1, none⟩ = some (.int .i64 x0.Shut) := B0.cell 1
  have e0_2 : u0.cell? ⟨w.heap.size, 2, none⟩ = some (.int .i64 x0.Open) := B0.cell 2
  have e0_3 : u0.cell? ⟨w.heap.size, 3, none⟩ = some (.int .i64 x0.Hold) := B0.cell 3
  have e0_4 : u0.cell? ⟨w.heap.size, 4, none⟩ = some (.bool x0.Shuts) := B0.cell 4
  have e0_5 : u0.cell? ⟨w.heap.size, 5, none⟩ = some (.int .i64 x0.Calm) := B0.cell 5
  go_wp2_with fail
  refine (toGate_any x0 _).mono ?_
  rintro e u1 ⟨rfl, hb1⟩
  have B0 := B0.below hb1
  have hs1_ : u0.heap.size ≤ u1.heap.size := hb1.size
  have hb := Bel.trans hb hb1
  clear hb1
  clear e0_0 e0_1 e0_2 e0_3 e0_4 e0_5
  go_wp2_with fail
  refine (toInt64S_any _ _ xs1 _ (H1.out.below hb) hN1).mono ?_
  rintro e u2 ⟨rfl, hb2, O1⟩
  have B0 := B0.below hb2
  have hs2_ : u1.heap.size ≤ u2.heap.size := hb2.size
  have hl2_ : u1.heap.size < u2.heap.size := O1.arr.1
  have hb := Bel.trans hb hb2
  clear hb2
  go_wp2_with fail
  refine (sShutHours_any x0 xs1 _ _ _ O1.arr hN1 hs0).mono ?_
  rintro e u3 ⟨rfl, hb3⟩
  have B0 := B0.below hb3
  have O1 := O1.below hb3
  have hs3_ : u2.heap.size ≤ u3.heap.size := hb3.size
  have hb := Bel.trans hb hb3
  clear hb3
  clear O1
  go_wp2_with fail
  refine (toInt64S_any _ _ xs1 _ (H1.out.below hb) hN1).mono ?_
  rintro e u4 ⟨rfl, hb4, O1⟩
  have B0 := B0.below hb4
  have hs4_ : u3.heap.size ≤ u4.heap.size := hb4.size
  have hl4_ : u3.heap.size < u4.heap.size := O1.arr.1
  have hb := Bel.trans hb hb4
  clear hb4
  have e0_0 : u4.cell? ⟨w.heap.size, 0, none⟩ = some (.string x0.Id) := B0.cell 0
  have e0_1 : u4.cell? ⟨w.heap.size, 1, none⟩ = some (.int .i64 x0.Shut) := B0.cell 1
  have e0_2 : u4.cell? ⟨w.heap.size, 2, none⟩ = some (.int .i64 x0.Open) := B0.cell 2
  have e0_3 : u4.cell? ⟨w.heap.size, 3, none⟩ = some (.int .i64 x0.Hold) := B0.cell 3
  have e0_4 : u4.cell? ⟨w.heap.size, 4, none⟩ = some (.bool x0.Shuts) := B0.cell 4
  have e0_5 : u4.cell? ⟨w.heap.size, 5, none⟩ = some (.int .i64 x0.Calm) := B0.cell 5
  go_wp2_with fail
  refine (toGate_any x0 _).mono ?_
  rintro e u5 ⟨rfl, hb5⟩
  have B0 := B0.below hb5
  have O1 := O1.below hb5
  have hs5_ : u4.heap.size ≤ u5.heap.size := hb5.size
  have hb := Bel.trans hb hb5
  clear hb5
  clear e0_0 e0_1 e0_2 e0_3 e0_4 e0_5
  clear B0
  go_wp2_with fail
  refine (ShutHours_any x0 xs1 _ _ _ O1.arr hN1 hs0).mono ?_
  rintro e u6 ⟨rfl, hb6⟩
  have O1 := O1.below hb6
  have hs6_ : u5.heap.size ≤ u6.heap.size := hb6.size
  have hb := Bel.trans hb hb6
  clear hb6
  go_wp2_with fail
  refine (toInt64S_any _ _ xs1 _ (H1.out.below hb) hN1).mono ?_
  rintro e u7 ⟨rfl, hb7, Q⟩
  have O1 := O1.below hb7
  have hb := Bel.trans hb hb7
  clear hb7
  go_wp2_with fail
  refine (eqInt64S_any _ _ _ _ xs1 _ O1.argS Q.argS (by omega)).mono ?_
  rintro e u8 ⟨rfl, hb8⟩
  have hs8_ : u7.heap.size ≤ u8.heap.size := hb8.size
  have hb := Bel.trans hb hb8
  clear hb8
  clear Q O1
  go_wp2
  go_ret
  exact ⟨rfl, hb⟩
theorem lawFnExactFirstShut (x0 : SGate) (A1 : Option Addr) (c1 : Nat) (xs1 : List Int) (w : World) (f0 : x0.fits) (h1 : ArgS intc 1 w A1 xs1) (n1 : xs1.length ≤ 9223372036854775807) :
    Calls Try.prog 6 #[.agg #[.string x0.Id, .int .i64 x0.Shut, .int .i64 x0.Open, .int .i64 x0.Hold, .bool x0.Shuts, .int .i64 x0.Calm], .slice A1 xs1.length c1] w fun e w' => e = .returned (.bool true) ∧ Below w.heap.size w w' := by
  have H1 := Lib.hid h1
  clear h1
  have hs0 := SGate.sizes f0
  have HX0 := Lib.hid f0
  clear f0
  by_cases hl1 : 1048576 < xs1.length
  · go_enter Try.func6, Try.ntmps6
    go_wp2
    go_ret
    exact ⟨rfl, (by repeat (first | (with_reducible assumption) | (with_reducible exact Below.refl _ _) | (with_reducible refine Bel.alloc ?_ _) | (with_reducible refine Below.drew ?_) | (with_reducible refine Bel.drewN ?_ _) | (with_reducible refine Bel.setCell ?_ (by (try simp) <;> omega) _) | (with_reducible refine Bel.trans ?_ (by assumption))))⟩
  have hN1 : xs1.length ≤ 1048576 := by omega
  go_enter Try.func6, Try.ntmps6
  have hb := Below.refl w.heap.size w
  go_wp2_with fail
  refine calls_box_out ?_
  intro W hbw B0
  have hb := Bel.trans hb hbw
  have hs_0 : w.heap.size ≤ W.heap.size := hbw.size
  clear hbw
  have hlB0_ := B0.lt
  refine (szGate_any x0 _ _ hs0 (by omega) (by omega)).mono ?_
  rintro e u0 ⟨⟨r0, rfl, hr0_1, hr0_2, hr0_3⟩, hb0⟩
  have B0 := B0.below hb0
  have hs0_ : W.heap.size ≤ u0.heap.size := hb0.size
  have hb := Bel.trans hb hb0
  clear hb0
  by_cases hr0 : r0 < 0
  · go_wp2
    go_ret
    exact ⟨rfl, hb⟩
  have hr0_0 : 0 ≤ r0 := by omega
  have e0_0 : u0.cell? ⟨w.heap.size, 0, none⟩ = some (.string x0.Id) := B0.cell 0
  have e0_1 : u0.cell? ⟨w.heap.size, 1, none⟩ = some (.int .i64 x0.Shut) := B0.cell 1
  have e0_2 : u0.cell? ⟨w.heap.size, 2, none⟩ = some (.int .i64 x0.Open) := B0.cell 2
  have e0_3 : u0.cell? ⟨w.heap.size, 3, none⟩ = some (.int .i64 x0.Hold) := B0.cell 3
  have e0_4 : u0.cell? ⟨w.heap.size, 4, none⟩ = some (.bool x0.Shuts) := B0.cell 4
  have e0_5 : u0.cell? ⟨w.heap.size, 5, none⟩ = some (.int .i64 x0.Calm) := B0.cell 5
  go_wp2_with fail
  refine (toGate_any x0 _).mono ?_
  rintro e u1 ⟨rfl, hb1⟩
  have B0 := B0.below hb1
  have hs1_ : u0.heap.size ≤ u1.heap.size := hb1.size
  have hb := Bel.trans hb hb1
  clear hb1
  clear e0_0 e0_1 e0_2 e0_3 e0_4 e0_5
  go_wp2_with fail
  refine (toInt64S_any _ _ xs1 _ (H1.out.below hb) hN1).mono ?_
  rintro e u2 ⟨rfl, hb2, O1⟩
  have B0 := B0.below hb2
  have hs2_ : u1.heap.size ≤ u2.heap.size := hb2.size
  have hl2_ : u1.heap.size < u2.heap.size := O1.arr.1
  have hb := Bel.trans hb hb2
  clear hb2
  go_wp2_with fail
  refine (sFirstShut_any x0 xs1 _ _ _ O1.arr hN1 hs0).mono ?_
  rintro e u3 ⟨rfl, hb3⟩
  have B0 := B0.below hb3
  have O1 := O1.below hb3
  have hs3_ : u2.heap.size ≤ u3.heap.size := hb3.size
  have hb := Bel.trans hb hb3
  clear hb3
  clear O1
  go_wp2_with fail
  refine (toInt64S_any _ _ xs1 _ (H1.out.below hb) hN1).mono ?_
  rintro e u4 ⟨rfl, hb4, O1⟩
  have B0 := B0.below hb4
  have hs4_ : u3.heap.size ≤ u4.heap.size := hb4.size
  have hl4_ : u3.heap.size < u4.heap.size := O1.arr.1
  have hb := Bel.trans hb hb4
  clear hb4
  have e0_0 : u4.cell? ⟨w.heap.size, 0, none⟩ = some (.string x0.Id) := B0.cell 0
  have e0_1 : u4.cell? ⟨w.heap.size, 1, none⟩ = some (.int .i64 x0.Shut) := B0.cell 1
  have e0_2 : u4.cell? ⟨w.heap.size, 2, none⟩ = some (.int .i64 x0.Open) := B0.cell 2
  have e0_3 : u4.cell? ⟨w.heap.size, 3, none⟩ = some (.int .i64 x0.Hold) := B0.cell 3
  have e0_4 : u4.cell? ⟨w.heap.size, 4, none⟩ = some (.bool x0.Shuts) := B0.cell 4
  have e0_5 : u4.cell? ⟨w.heap.size, 5, none⟩ = some (.int .i64 x0.Calm) := B0.cell 5
  go_wp2_with fail
  refine (toGate_any x0 _).mono ?_
  rintro e u5 ⟨rfl, hb5⟩
  have B0 := B0.below hb5
  have O1 := O1.below hb5
  have hs5_ : u4.heap.size ≤ u5.heap.size := hb5.size
  have hb := Bel.trans hb hb5
  clear hb5
  clear e0_0 e0_1 e0_2 e0_3 e0_4 e0_5
  clear B0
  go_wp2_with fail
  refine (FirstShut_any x0 xs1 _ _ _ O1.arr hN1 hs0).mono ?_
  rintro e u6 ⟨rfl, hb6⟩
  have O1 := O1.below hb6
  have hs6_ : u5.heap.size ≤ u6.heap.size := hb6.size
  have hb := Bel.trans hb hb6
  clear hb6
  go_wp2_with fail
  refine (toInt64S_any _ _ xs1 _ (H1.out.below hb) hN1).mono ?_
  rintro e u7 ⟨rfl, hb7, Q⟩
  have O1 := O1.below hb7
  have hb := Bel.trans hb hb7
  clear hb7
  go_wp2_with fail
  refine (eqInt64S_any _ _ _ _ xs1 _ O1.argS Q.argS (by omega)).mono ?_
  rintro e u8 ⟨rfl, hb8⟩
  have hs8_ : u7.heap.size ≤ u8.heap.size := hb8.size
  have hb := Bel.trans hb hb8
  clear hb8
  clear Q O1
  go_wp2
  go_ret
  exact ⟨rfl, hb⟩
theorem lawFnExactRunGate (x0 : SGate) (A1 : Option Addr) (c1 : Nat) (xs1 : List Int) (w : World) (f0 : x0.fits) (h1 : ArgS intc 1 w A1 xs1) (n1 : xs1.length ≤ 9223372036854775807) :
    Calls Try.prog 9 #[.agg #[.string x0.Id, .int .i64 x0.Shut, .int .i64 x0.Open, .int .i64 x0.Hold, .bool x0.Shuts, .int .i64 x0.Calm], .slice A1 xs1.length c1] w fun e w' => e = .returned (.bool true) ∧ Below w.heap.size w w' := by
  have H1 := Lib.hid h1
  clear h1
  have hs0 := SGate.sizes f0
  have HX0 := Lib.hid f0
  clear f0
  by_cases hl1 : 1048576 < xs1.length
  · go_enter Try.func9, Try.ntmps9
    go_wp2
    go_ret
    exact ⟨rfl, (by repeat (first | (with_reducible assumption) | (with_reducible exact Below.refl _ _) | (with_reducible refine Bel.alloc ?_ _) | (with_reducible refine Below.drew ?_) | (with_reducible refine Bel.drewN ?_ _) | (with_reducible refine Bel.setCell ?_ (by (try simp) <;> omega) _) | (with_reducible refine Bel.trans ?_ (by assumption))))⟩
  have hN1 : xs1.length ≤ 1048576 := by omega
  go_enter Try.func9, Try.ntmps9
  have hb := Below.refl w.heap.size w
  go_wp2_with fail
  refine calls_box_out ?_
  intro W hbw B0
  have hb := Bel.trans hb hbw
  have hs_0 : w.heap.size ≤ W.heap.size := hbw.size
  clear hbw
  have hlB0_ := B0.lt
  refine (szGate_any x0 _ _ hs0 (by omega) (by omega)).mono ?_
  rintro e u0 ⟨⟨r0, rfl, hr0_1, hr0_2, hr0_3⟩, hb0⟩
  have B0 := B0.below hb0
  have hs0_ : W.heap.size ≤ u0.heap.size := hb0.size
  have hb := Bel.trans hb hb0
  clear hb0
  by_cases hr0 : r0 < 0
  · go_wp2
    go_ret
    exact ⟨rfl, hb⟩
  have hr0_0 : 0 ≤ r0 := by omega
  have e0_0 : u0.cell? ⟨w.heap.size, 0, none⟩ = some (.string x0.Id) := B0.cell 0
  have e0_1 : u0.cell? ⟨w.heap.size, 1, none⟩ = some (.int .i64 x0.Shut) := B0.cell 1
  have e0_2 : u0.cell? ⟨w.heap.size, 2, none⟩ = some (.int .i64 x0.Open) := B0.cell 2
  have e0_3 : u0.cell? ⟨w.heap.size, 3, none⟩ = some (.int .i64 x0.Hold) := B0.cell 3
  have e0_4 : u0.cell? ⟨w.heap.size, 4, none⟩ = some (.bool x0.Shuts) := B0.cell 4
  have e0_5 : u0.cell? ⟨w.heap.size, 5, none⟩ = some (.int .i64 x0.Calm) := B0.cell 5
  go_wp2_with fail
  refine (toGate_any x0 _).mono ?_
  rintro e u1 ⟨rfl, hb1⟩
  have B0 := B0.below hb1
  have hs1_ : u0.heap.size ≤ u1.heap.size := hb1.size
  have hb := Bel.trans hb hb1
  clear hb1
  clear e0_0 e0_1 e0_2 e0_3 e0_4 e0_5
  go_wp2_with fail
  refine (toInt64S_any _ _ xs1 _ (H1.out.below hb) hN1).mono ?_
  rintro e u2 ⟨rfl, hb2, O1⟩
  have B0 := B0.below hb2
  have hs2_ : u1.heap.size ≤ u2.heap.size := hb2.size
  have hl2_ : u1.heap.size < u2.heap.size := O1.arr.1
  have hb := Bel.trans hb hb2
  clear hb2
  go_wp2_with fail
  refine (sRunGate_any x0 xs1 _ _ _ O1.arr hN1 hs0).mono ?_
  rintro e u3 ⟨⟨v0, rfl, R0⟩, hb3⟩
  have B0 := B0.below hb3
  have O1 := O1.below hb3
  have hs3_ : u2.heap.size ≤ u3.heap.size := hb3.size
  have hb := Bel.trans hb hb3
  clear hb3
  clear O1
  have hL : (rgRes x0 xs1).1.length ≤ 1048576 := Nat.le_trans (rgRes_len x0 xs1) (by omega)
  obtain ⟨D0, d0, rfl, _⟩ := R0.form (fun _ => rfl)
  have o0 : ∀ g, (Value.slice D0 (rgRes x0 xs1).1.length d0).ownBlock = some g → g < u3.heap.size := fun g h => R0.own_lt h
  have O0L := Lib.hid o0
  clear o0
  go_wp2_with fail
  refine (toInt64S_any _ _ xs1 _ (H1.out.below hb) hN1).mono ?_
  rintro e u4 ⟨rfl, hb4, O1⟩
  have B0 := B0.below hb4
  have R0 := R0.below hb4
  have hs4_ : u3.heap.size ≤ u4.heap.size := hb4.size
  have hl4_ : u3.heap.size < u4.heap.size := O1.arr.1
  have hb := Bel.trans hb hb4
  clear hb4
  have e0_0 : u4.cell? ⟨w.heap.size, 0, none⟩ = some (.string x0.Id) := B0.cell 0
  have e0_1 : u4.cell? ⟨w.heap.size, 1, none⟩ = some (.int .i64 x0.Shut) := B0.cell 1
  have e0_2 : u4.cell? ⟨w.heap.size, 2, none⟩ = some (.int .i64 x0.Open) := B0.cell 2
  have e0_3 : u4.cell? ⟨w.heap.size, 3, none⟩ = some (.int .i64 x0.Hold) := B0.cell 3
  have e0_4 : u4.cell? ⟨w.heap.size, 4, none⟩ = some (.bool x0.Shuts) := B0.cell 4
  have e0_5 : u4.cell? ⟨w.heap.size, 5, none⟩ = some (.int .i64 x0.Calm) := B0.cell 5
  go_wp2_with fail
  refine (toGate_any x0 _).mono ?_
  rintro e u5 ⟨rfl, hb5⟩
  have B0 := B0.below hb5
  have R0 := R0.below hb5
  have O1 := O1.below hb5
  have hs5_ : u4.heap.size ≤ u5.heap.size := hb5.size
  have hb := Bel.trans hb hb5
  clear hb5
  clear e0_0 e0_1 e0_2 e0_3 e0_4 e0_5
  go_wp2_with fail
  refine (RunGate_any x0 xs1 _ _ _ O1.arr hN1 hs0).mono ?_
  rintro e u6 ⟨⟨v1, rfl, R1⟩, hb6⟩
  have B0 := B0.below hb6
  have R0 := R0.below hb6
  have O1 := O1.below hb6
  have hs6_ : u5.heap.size ≤ u6.heap.size := hb6.size
  have hb := Bel.trans hb hb6
  clear hb6
  obtain ⟨D1, d1, rfl, _⟩ := R1.form (fun _ => rfl)
  have o1 : ∀ g, (Value.slice D1 (rgRes x0 xs1).1.length d1).ownBlock = some g → u5.heap.size ≤ g := fun g h => R1.own_ge h
  have O1L := Lib.hid o1
  clear o1
  go_wp2_with fail
  refine (eqBoolS_any _ _ _ _ _ _ (R1.argS fun _ => rfl) (R0.argS fun _ => rfl) (by omega)).mono ?_
  rintro e u7 ⟨rfl, hb7⟩
  have B0 := B0.below hb7
  have R0 := R0.below hb7
  have O1 := O1.below hb7
  have R1 := R1.below hb7
  have hs7_ : u6.heap.size ≤ u7.heap.size := hb7.size
  have hb := Bel.trans hb hb7
  clear hb7
  go_wp2_with fail
  refine (toInt64S_any _ _ xs1 _ (H1.out.below hb) hN1).mono ?_
  rintro e u8 ⟨rfl, hb8, Q⟩
  have B0 := B0.below hb8
  have R0 := R0.below hb8
  have O1 := O1.below hb8
  have R1 := R1.below hb8
  have hs8_ : u7.heap.size ≤ u8.heap.size := hb8.size
  have hb := Bel.trans hb hb8
  clear hb8
  go_wp2_with fail
  refine (eqInt64S_any _ _ _ _ xs1 _ O1.argS Q.argS (by omega)).mono ?_
  rintro e u9 ⟨rfl, hb9⟩
  have B0 := B0.below hb9
  have R0 := R0.below hb9
  have O1 := O1.below hb9
  have R1 := R1.below hb9
  have hs9_ : u8.heap.size ≤ u9.heap.size := hb9.size
  have hb := Bel.trans hb hb9
  clear hb9
  clear Q
  go_wp2_with fail
  refine (markInt64S_own _ _ xs1 _ _ O1 hN1 (by omega) (by omega)).mono ?_
  rintro e u10 ⟨rfl, hg10⟩
  have B0 := Box.grown B0 hg10 (by omega)
  have R0 := R0.grown hg10 (fun h => absurd (O0L.out _ h) (by omega))
  have R1 := R1.grown hg10 (fun h => absurd (O1L.out _ h) (by omega))
  have hb := hb.trans (below_of_grown hg10 (by omega) (by omega))
  have hs10_ : u9.heap.size ≤ u10.heap.size := hg10.size
  clear hg10
  clear O1
  go_wp2_with fail
  refine (eqBoolS_any _ _ _ _ _ _ (R1.argS fun _ => rfl) (R0.argS fun _ => rfl) (by omega)).mono ?_
  rintro e u11 ⟨rfl, hb11⟩
  have B0 := B0.below hb11
  have R0 := R0.below hb11
  have R1 := R1.below hb11
  have hs11_ : u10.heap.size ≤ u11.heap.size := hb11.size
  have hb := Bel.trans hb hb11
  clear hb11
  go_wp2_with fail
  refine (markBoolS_any _ _ 1 _ _ R1 (by omega) (by omega) (by omega)).mono ?_
  rintro e u12 ⟨rfl, M, hg12⟩
  have R0 := R0.grownO hg12 (fun g h h' => absurd (O1L.out _ h') (by have := O0L.out _ h; omega))
  have hb := hb.trans ((Below.refl w.heap.size u11).grown hg12 (by omega) (fun g h => by have := O1L.out _ h; omega))
  have hs12_ : u11.heap.size ≤ u12.heap.size := hg12.size
  have B0 := Box.grownO B0 hg12 (fun h => by have := O1L.out _ h; omega)
  clear hg12 R1
  go_wp2_with fail
  refine (heldBoolS_any _ _ _ 1 _ (M.argS fun _ => rfl) (by omega) (by omega) (by omega)).mono ?_
  rintro e u13 ⟨rfl, hb13⟩
  have B0 := B0.below hb13
  have R0 := R0.below hb13
  have M := M.below hb13
  have hs13_ : u12.heap.size ≤ u13.heap.size := hb13.size
  have hb := Bel.trans hb hb13
  clear hb13
  have e0_0 : u13.cell? ⟨w.heap.size, 0, none⟩ = some (.string x0.Id) := B0.cell 0
  have e0_1 : u13.cell? ⟨w.heap.size, 1, none⟩ = some (.int .i64 x0.Shut) := B0.cell 1
  have e0_2 : u13.cell? ⟨w.heap.size, 2, none⟩ = some (.int .i64 x0.Open) := B0.cell 2
  have e0_3 : u13.cell? ⟨w.heap.size, 3, none⟩ = some (.int .i64 x0.Hold) := B0.cell 3
  have e0_4 : u13.cell? ⟨w.heap.size, 4, none⟩ = some (.bool x0.Shuts) := B0.cell 4
  have e0_5 : u13.cell? ⟨w.heap.size, 5, none⟩ = some (.int .i64 x0.Calm) := B0.cell 5
  go_wp2_with fail
  refine (toGate_any x0 _).mono ?_
  rintro e u14 ⟨rfl, hb14⟩
  have B0 := B0.below hb14
  have R0 := R0.below hb14
  have M := M.below hb14
  have hs14_ : u13.heap.size ≤ u14.heap.size := hb14.size
  have hb := Bel.trans hb hb14
  clear hb14
  clear e0_0 e0_1 e0_2 e0_3 e0_4 e0_5
  go_wp2_with fail
  refine (toInt64S_any _ _ xs1 _ (H1.out.below hb) hN1).mono ?_
  rintro e u15 ⟨rfl, hb15, O1⟩
  have B0 := B0.below hb15
  have R0 := R0.below hb15
  have M := M.below hb15
  have hs15_ : u14.heap.size ≤ u15.heap.size := hb15.size
  have hl15_ : u14.heap.size < u15.heap.size := O1.arr.1
  have hb := Bel.trans hb hb15
  clear hb15
  go_wp2_with fail
  refine (RunGate_any x0 xs1 _ _ _ O1.arr hN1 hs0).mono ?_
  rintro e u16 ⟨⟨v2, rfl, R2⟩, hb16⟩
  have B0 := B0.below hb16
  have R0 := R0.below hb16
  have M := M.below hb16
  have O1 := O1.below hb16
  have hs16_ : u15.heap.size ≤ u16.heap.size := hb16.size
  have hb := Bel.trans hb hb16
  clear hb16
  clear O1 B0
  obtain ⟨D2, d2, rfl, _⟩ := R2.form (fun _ => rfl)
  go_wp2_with fail
  refine (eqBoolS_any _ _ _ _ _ _ (R2.argS fun _ => rfl) (R0.argS fun _ => rfl) (by omega)).mono ?_
  rintro e u17 ⟨rfl, hb17⟩
  have M := M.below hb17
  have hs17_ : u16.heap.size ≤ u17.heap.size := hb17.size
  have hb := Bel.trans hb hb17
  clear hb17
  clear R0 R2
  go_wp2_with fail
  refine (heldBoolS_any _ _ _ 1 _ (M.argS fun _ => rfl) (by omega) (by omega) (by omega)).mono ?_
  rintro e u18 ⟨rfl, hb18⟩
  have hs18_ : u17.heap.size ≤ u18.heap.size := hb18.size
  have hb := Bel.trans hb hb18
  clear hb18
  clear M
  go_wp2
  go_ret
  exact ⟨rfl, hb⟩
end Go.Proofs.Ytinijfdopkohfaa
