/- FnExactCompareStations: for every input the law answers true and leaves its arguments alone. No condition. -/
import Derived.Test.YtoiobpmpkfdidaaL04d
import Derived.Test.YtoiobpmpkfdidaaLTObserved
namespace Go.Proofs.Ytoiobpmpkfdidaa
set_option linter.unusedSimpArgs false
set_option linter.unusedVariables false
open Go.RowKit
set_option maxHeartbeats 400000
theorem lawFnExactCompareStations (A0 : Option Addr) (c0 : Nat) (xs0 : List SObserved) (A1 : Option Addr) (c1 : Nat) (xs1 : List SObserved) (w : World) (h0 : ArgS SObserved.cells 4 w A0 xs0) (n0 : xs0.length ≤ 9223372036854775807) (f0 : ∀ i (h : i < xs0.length), xs0[i].fits) (h1 : ArgS SObserved.cells 4 w A1 xs1) (n1 : xs1.length ≤ 9223372036854775807) (f1 : ∀ i (h : i < xs1.length), xs1[i].fits) :
    Calls Try.prog 3 #[.slice A0 xs0.length c0, .slice A1 xs1.length c1] w fun e w' => e = .returned (.bool true) ∧ Below w.heap.size w w' := by
  have H0 := Lib.hid h0
  clear h0
  have HF0 := Lib.hid f0
  clear f0
  have H1 := Lib.hid h1
  clear h1
  have HF1 := Lib.hid f1
  clear f1
  go_enter Try.func3, Try.ntmps3
  have hb := Below.refl w.heap.size w
  go_wp2_with fail
  refine (szObservedS_any _ _ _ _ _ n0 (by omega) (by omega)).mono ?_
  rintro e u0 ⟨⟨r0, rfl, hr0_1, hr0_2, hr0_3⟩, rfl⟩
  by_cases hr0 : r0 < 0
  · go_wp2
    go_ret
    exact ⟨rfl, hb⟩
  have hr0_0 : 0 ≤ r0 := by omega
  have hN0 : xs0.length ≤ 1048576 := by omega
  go_wp2_with fail
  refine (szObservedS_any _ _ _ _ _ n1 (by omega) (by omega)).mono ?_
  rintro e u1 ⟨⟨r1, rfl, hr1_1, hr1_2, hr1_3⟩, rfl⟩
  by_cases hr1 : r1 < 0
  · go_wp2
    go_ret
    exact ⟨rfl, hb⟩
  have hr1_0 : 0 ≤ r1 := by omega
  have hN1 : xs1.length ≤ 1048576 := by omega
  go_wp2_with fail
  refine (toObservedS_any _ _ xs0 _ (H0.out.below hb) hN0).mono ?_
  rintro e u2 ⟨rfl, hb2, O0⟩
  have hs2_ : w.heap.size ≤ u2.heap.size := hb2.size
  have hl2_ : w.heap.size < u2.heap.size := O0.arr.1
  have hb := Bel.trans hb hb2
  clear hb2
  go_wp2_with fail
  refine (toObservedS_any _ _ xs1 _ (H1.out.below hb) hN1).mono ?_
  rintro e u3 ⟨rfl, hb3, O1⟩
  have O0 := O0.below hb3
  have hs3_ : u2.heap.size ≤ u3.heap.size := hb3.size
  have hl3_ : u2.heap.size < u3.heap.size := O1.arr.1
  have hb := Bel.trans hb hb3
  clear hb3
  go_wp2_with fail
  refine (sCompareStations_any xs0 xs1 _ _ _ _ _ O0.arr O1.arr hN0 hN1).mono ?_
  rintro e u4 ⟨rfl, hb4⟩
  have O0 := O0.below hb4
  have O1 := O1.below hb4
  have hs4_ : u3.heap.size ≤ u4.heap.size := hb4.size
  have hb := Bel.trans hb hb4
  clear hb4
  clear O0 O1
  go_wp2_with fail
  refine (toObservedS_any _ _ xs0 _ (H0.out.below hb) hN0).mono ?_
  rintro e u5 ⟨rfl, hb5, O0⟩
  have hs5_ : u4.heap.size ≤ u5.heap.size := hb5.size
  have hl5_ : u4.heap.size < u5.heap.size := O0.arr.1
  have hb := Bel.trans hb hb5
  clear hb5
  go_wp2_with fail
  refine (toObservedS_any _ _ xs1 _ (H1.out.below hb) hN1).mono ?_
  rintro e u6 ⟨rfl, hb6, O1⟩
  have O0 := O0.below hb6
  have hs6_ : u5.heap.size ≤ u6.heap.size := hb6.size
  have hl6_ : u5.heap.size < u6.heap.size := O1.arr.1
  have hb := Bel.trans hb hb6
  clear hb6
  go_wp2_with fail
  refine (CompareStations_any xs0 xs1 _ _ _ _ _ O0.arr O1.arr hN0 hN1).mono ?_
  rintro e u7 ⟨rfl, hb7⟩
  have O0 := O0.below hb7
  have O1 := O1.below hb7
  have hs7_ : u6.heap.size ≤ u7.heap.size := hb7.size
  have hb := Bel.trans hb hb7
  clear hb7
  go_wp2_with fail
  refine (toObservedS_any _ _ xs0 _ (H0.out.below hb) hN0).mono ?_
  rintro e u8 ⟨rfl, hb8, Q⟩
  have O0 := O0.below hb8
  have O1 := O1.below hb8
  have hb := Bel.trans hb hb8
  clear hb8
  go_wp2_with fail
  refine (eqObservedS_any _ _ _ _ xs0 _ O0.arr Q.arr hN0).mono ?_
  rintro e u9 ⟨rfl, hb9⟩
  have O1 := O1.below hb9
  have hs9_ : u8.heap.size ≤ u9.heap.size := hb9.size
  have hb := Bel.trans hb hb9
  clear hb9
  clear Q O0
  go_wp2_with fail
  refine (toObservedS_any _ _ xs1 _ (H1.out.below hb) hN1).mono ?_
  rintro e u10 ⟨rfl, hb10, Q⟩
  have O1 := O1.below hb10
  have hb := Bel.trans hb hb10
  clear hb10
  go_wp2_with fail
  refine (eqObservedS_any _ _ _ _ xs1 _ O1.arr Q.arr hN1).mono ?_
  rintro e u11 ⟨rfl, hb11⟩
  have hs11_ : u10.heap.size ≤ u11.heap.size := hb11.size
  have hb := Bel.trans hb hb11
  clear hb11
  clear Q O1
  go_wp2
  go_ret
  exact ⟨rfl, hb⟩
end Go.Proofs.Ytoiobpmpkfdidaa
