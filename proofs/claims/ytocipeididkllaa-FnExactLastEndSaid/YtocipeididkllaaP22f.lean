/- The laws of chapter 22 (plans of shots): for every input each answers true and leaves its arguments alone. No condition. -/
import Derived.Test.YtocipeididkllaaL22f
import Derived.Test.YtocipeididkllaaLTShot
import Derived.Test.YtocipeididkllaaLTInts
namespace Go.Proofs.Ytocipeididkllaa
set_option linter.unusedSimpArgs false
set_option linter.unusedVariables false
open Go.RowKit
set_option maxHeartbeats 400000
theorem lawFnExactIsShotPlan (A0 : Option Addr) (c0 : Nat) (xs0 : List SShot) (A1 : Option Addr) (c1 : Nat) (xs1 : List Int) (x2 : Int) (w : World) (h0 : ArgS SShot.cells 5 w A0 xs0) (n0 : xs0.length ≤ 9223372036854775807) (f0 : ∀ i (h : i < xs0.length), xs0[i].fits) (h1 : ArgS intc 1 w A1 xs1) (n1 : xs1.length ≤ 9223372036854775807) (g2 : -9223372036854775808 ≤ x2) (g2' : x2 ≤ 9223372036854775807) :
    Calls Try.prog 3 #[.slice A0 xs0.length c0, .slice A1 xs1.length c1, .int .i64 x2] w fun e w' => e = .returned (.bool true) ∧ Below w.heap.size w w' := by
  have H0 := Lib.hid h0
  clear h0
  have HF0 := Lib.hid f0
  clear f0
  have H1 := Lib.hid h1
  clear h1
  by_cases hl1 : 1048576 < xs1.length
  · go_enter Try.func3, Try.ntmps3
    go_wp2
    go_ret
    exact ⟨rfl, (by repeat (first | (with_reducible assumption) | (with_reducible exact Below.refl _ _) | (with_reducible refine Bel.alloc ?_ _) | (with_reducible refine Below.drew ?_) | (with_reducible refine Bel.drewN ?_ _) | (with_reducible refine Bel.setCell ?_ (by (try simp) <;> omega) _) | (with_reducible refine Bel.trans ?_ (by assumption))))⟩
  have hN1 : xs1.length ≤ 1048576 := by omega
  go_enter Try.func3, Try.ntmps3
  have hb := Below.refl w.heap.size w
  go_wp2_with fail
  refine (szShotS_any _ _ xs0 _ _ (H0.out.below hb) (fun i hi => SShot.sizes (HF0.out i hi)) n0 (by omega) (by omega)).mono ?_
  rintro e u0 ⟨⟨r0, rfl, hr0_1, hr0_2, hr0_3⟩, hb0⟩
  have hs0_ : w.heap.size ≤ u0.heap.size := hb0.size
  have hb := Bel.trans hb hb0
  clear hb0
  by_cases hr0 : r0 < 0
  · go_wp2
    go_ret
    exact ⟨rfl, hb⟩
  have hr0_0 : 0 ≤ r0 := by omega
  have hN0 : xs0.length ≤ 1048576 := by omega
  go_wp2_with fail
  refine (toShotS_any _ _ xs0 _ (H0.out.below hb) hN0).mono ?_
  rintro e u1 ⟨rfl, hb1, O0⟩
  have hs1_ : u0.heap.size ≤ u1.heap.size := hb1.size
  have hl1_ : u0.heap.size < u1.heap.size := O0.arr.1
  have hb := Bel.trans hb hb1
  clear hb1
  go_wp2_with fail
  refine (toInt64S_any _ _ xs1 _ (H1.out.below hb) hN1).mono ?_
  rintro e u2 ⟨rfl, hb2, O1⟩
  have O0 := O0.below hb2
  have hs2_ : u1.heap.size ≤ u2.heap.size := hb2.size
  have hl2_ : u1.heap.size < u2.heap.size := O1.arr.1
  have hb := Bel.trans hb hb2
  clear hb2
  go_wp2_with fail
  refine (sIsShotPlan_any xs0 xs1 _ _ _ _ x2 _ O0.arr O1.arr hN0 hN1 (Nat.le_refl _) (fun i hi => SShot.sizes (HF0.out i hi))).mono ?_
  rintro e u3 ⟨rfl, hb3⟩
  have O0 := O0.below hb3
  have O1 := O1.below hb3
  have hs3_ : u2.heap.size ≤ u3.heap.size := hb3.size
  have hb := Bel.trans hb hb3
  clear hb3
  clear O0 O1
  go_wp2_with fail
  refine (toShotS_any _ _ xs0 _ (H0.out.below hb) hN0).mono ?_
  rintro e u4 ⟨rfl, hb4, O0⟩
  have hs4_ : u3.heap.size ≤ u4.heap.size := hb4.size
  have hl4_ : u3.heap.size < u4.heap.size := O0.arr.1
  have hb := Bel.trans hb hb4
  clear hb4
  go_wp2_with fail
  refine (toInt64S_any _ _ xs1 _ (H1.out.below hb) hN1).mono ?_
  rintro e u5 ⟨rfl, hb5, O1⟩
  have O0 := O0.below hb5
  have hs5_ : u4.heap.size ≤ u5.heap.size := hb5.size
  have hl5_ : u4.heap.size < u5.heap.size := O1.arr.1
  have hb := Bel.trans hb hb5
  clear hb5
  go_wp2_with fail
  refine (IsShotPlan_any xs0 xs1 _ _ _ _ x2 _ O0.arr O1.arr hN0 hN1 (Nat.le_refl _) (fun i hi => SShot.sizes (HF0.out i hi))).mono ?_
  rintro e u6 ⟨rfl, hb6⟩
  have O0 := O0.below hb6
  have O1 := O1.below hb6
  have hs6_ : u5.heap.size ≤ u6.heap.size := hb6.size
  have hb := Bel.trans hb hb6
  clear hb6
  go_wp2_with fail
  refine (toShotS_any _ _ xs0 _ (H0.out.below hb) hN0).mono ?_
  rintro e u7 ⟨rfl, hb7, Q⟩
  have O0 := O0.below hb7
  have O1 := O1.below hb7
  have hb := Bel.trans hb hb7
  clear hb7
  go_wp2_with fail
  refine (eqShotS_any _ _ _ _ xs0 _ O0.arr Q.arr hN0).mono ?_
  rintro e u8 ⟨rfl, hb8⟩
  have O1 := O1.below hb8
  have hs8_ : u7.heap.size ≤ u8.heap.size := hb8.size
  have hb := Bel.trans hb hb8
  clear hb8
  clear Q O0
  go_wp2_with fail
  refine (toInt64S_any _ _ xs1 _ (H1.out.below hb) hN1).mono ?_
  rintro e u9 ⟨rfl, hb9, Q⟩
  have O1 := O1.below hb9
  have hb := Bel.trans hb hb9
  clear hb9
  go_wp2_with fail
  refine (eqInt64S_any _ _ _ _ xs1 _ O1.argS Q.argS (by omega)).mono ?_
  rintro e u10 ⟨rfl, hb10⟩
  have hs10_ : u9.heap.size ≤ u10.heap.size := hb10.size
  have hb := Bel.trans hb hb10
  clear hb10
  clear Q O1
  go_wp2
  go_ret
  exact ⟨rfl, hb⟩
theorem lawFnExactLastEnd (A0 : Option Addr) (c0 : Nat) (xs0 : List SShot) (A1 : Option Addr) (c1 : Nat) (xs1 : List Int) (x2 : Int) (w : World) (h0 : ArgS SShot.cells 5 w A0 xs0) (n0 : xs0.length ≤ 9223372036854775807) (f0 : ∀ i (h : i < xs0.length), xs0[i].fits) (h1 : ArgS intc 1 w A1 xs1) (n1 : xs1.length ≤ 9223372036854775807) (g2 : -9223372036854775808 ≤ x2) (g2' : x2 ≤ 9223372036854775807) :
    Calls Try.prog 4 #[.slice A0 xs0.length c0, .slice A1 xs1.length c1, .int .i64 x2] w fun e w' => e = .returned (.bool true) ∧ Below w.heap.size w w' := by
  have H0 := Lib.hid h0
  clear h0
  have HF0 := Lib.hid f0
  clear f0
  have H1 := Lib.hid h1
  clear h1
  by_cases hl1 : 1048576 < xs1.length
  · go_enter Try.func4, Try.ntmps4
    go_wp2
    go_ret
    exact ⟨rfl, (by repeat (first | (with_reducible assumption) | (with_reducible exact Below.refl _ _) | (with_reducible refine Bel.alloc ?_ _) | (with_reducible refine Below.drew ?_) | (with_reducible refine Bel.drewN ?_ _) | (with_reducible refine Bel.setCell ?_ (by (try simp) <;> omega) _) | (with_reducible refine Bel.trans ?_ (by assumption))))⟩
  have hN1 : xs1.length ≤ 1048576 := by omega
  go_enter Try.func4, Try.ntmps4
  have hb := Below.refl w.heap.size w
  go_wp2_with fail
  refine (szShotS_any _ _ xs0 _ _ (H0.out.below hb) (fun i hi => SShot.sizes (HF0.out i hi)) n0 (by omega) (by omega)).mono ?_
  rintro e u0 ⟨⟨r0, rfl, hr0_1, hr0_2, hr0_3⟩, hb0⟩
  have hs0_ : w.heap.size ≤ u0.heap.size := hb0.size
  have hb := Bel.trans hb hb0
  clear hb0
  by_cases hr0 : r0 < 0
  · go_wp2
    go_ret
    exact ⟨rfl, hb⟩
  have hr0_0 : 0 ≤ r0 := by omega
  have hN0 : xs0.length ≤ 1048576 := by omega
  go_wp2_with fail
  refine (toShotS_any _ _ xs0 _ (H0.out.below hb) hN0).mono ?_
  rintro e u1 ⟨rfl, hb1, O0⟩
  have hs1_ : u0.heap.size ≤ u1.heap.size := hb1.size
  have hl1_ : u0.heap.size < u1.heap.size := O0.arr.1
  have hb := Bel.trans hb hb1
  clear hb1
  go_wp2_with fail
  refine (toInt64S_any _ _ xs1 _ (H1.out.below hb) hN1).mono ?_
  rintro e u2 ⟨rfl, hb2, O1⟩
  have O0 := O0.below hb2
  have hs2_ : u1.heap.size ≤ u2.heap.size := hb2.size
  have hl2_ : u1.heap.size < u2.heap.size := O1.arr.1
  have hb := Bel.trans hb hb2
  clear hb2
  go_wp2_with fail
  refine (sLastEnd_any xs0 xs1 _ _ _ _ x2 _ O0.arr O1.arr hN0 hN1 (Nat.le_refl _) (fun i hi => SShot.sizes (HF0.out i hi))).mono ?_
  rintro e u3 ⟨rfl, hb3⟩
  have O0 := O0.below hb3
  have O1 := O1.below hb3
  have hs3_ : u2.heap.size ≤ u3.heap.size := hb3.size
  have hb := Bel.trans hb hb3
  clear hb3
  clear O0 O1
  go_wp2_with fail
  refine (toShotS_any _ _ xs0 _ (H0.out.below hb) hN0).mono ?_
  rintro e u4 ⟨rfl, hb4, O0⟩
  have hs4_ : u3.heap.size ≤ u4.heap.size := hb4.size
  have hl4_ : u3.heap.size < u4.heap.size := O0.arr.1
  have hb := Bel.trans hb hb4
  clear hb4
  go_wp2_with fail
  refine (toInt64S_any _ _ xs1 _ (H1.out.below hb) hN1).mono ?_
  rintro e u5 ⟨rfl, hb5, O1⟩
  have O0 := O0.below hb5
  have hs5_ : u4.heap.size ≤ u5.heap.size := hb5.size
  have hl5_ : u4.heap.size < u5.heap.size := O1.arr.1
  have hb := Bel.trans hb hb5
  clear hb5
  go_wp2_with fail
  refine (LastEnd_any xs0 xs1 _ _ _ _ x2 _ O0.arr O1.arr hN0 hN1 (Nat.le_refl _) (fun i hi => SShot.sizes (HF0.out i hi))).mono ?_
  rintro e u6 ⟨rfl, hb6⟩
  have O0 := O0.below hb6
  have O1 := O1.below hb6
  have hs6_ : u5.heap.size ≤ u6.heap.size := hb6.size
  have hb := Bel.trans hb hb6
  clear hb6
  go_wp2_with fail
  refine (toShotS_any _ _ xs0 _ (H0.out.below hb) hN0).mono ?_
  rintro e u7 ⟨rfl, hb7, Q⟩
  have O0 := O0.below hb7
  have O1 := O1.below hb7
  have hb := Bel.trans hb hb7
  clear hb7
  go_wp2_with fail
  refine (eqShotS_any _ _ _ _ xs0 _ O0.arr Q.arr hN0).mono ?_
  rintro e u8 ⟨rfl, hb8⟩
  have O1 := O1.below hb8
  have hs8_ : u7.heap.size ≤ u8.heap.size := hb8.size
  have hb := Bel.trans hb hb8
  clear hb8
  clear Q O0
  go_wp2_with fail
  refine (toInt64S_any _ _ xs1 _ (H1.out.below hb) hN1).mono ?_
  rintro e u9 ⟨rfl, hb9, Q⟩
  have O1 := O1.below hb9
  have hb := Bel.trans hb hb9
  clear hb9
  go_wp2_with fail
  refine (eqInt64S_any _ _ _ _ xs1 _ O1.argS Q.argS (by omega)).mono ?_
  rintro e u10 ⟨rfl, hb10⟩
  have hs10_ : u9.heap.size ≤ u10.heap.size := hb10.size
  have hb := Bel.trans hb hb10
  clear hb10
  clear Q O1
  go_wp2
  go_ret
  exact ⟨rfl, hb⟩
end Go.Proofs.Ytocipeididkllaa
