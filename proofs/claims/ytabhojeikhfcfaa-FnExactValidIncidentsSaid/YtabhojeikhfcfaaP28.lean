/- The laws of chapter 28 (incidents): for every input each answers true and leaves its arguments alone. No condition. -/
import Derived.Test.YtabhojeikhfcfaaL28c
import Derived.Test.YtabhojeikhfcfaaL28d
import Derived.Test.YtabhojeikhfcfaaL28e
import Derived.Test.YtabhojeikhfcfaaL28f
import Derived.Test.YtabhojeikhfcfaaLTIncident
import Derived.Test.YtabhojeikhfcfaaLTInts
namespace Go.Proofs.Ytabhojeikhfcfaa
open Go.RowKit
set_option maxHeartbeats 400000
theorem lawFnExactValidIncidents (A0 : Option Addr) (c0 : Nat) (xs0 : List SIncident) (w : World) (h0 : ArgS SIncident.cells 6 w A0 xs0) (n0 : xs0.length ≤ 9223372036854775807) (f0 : ∀ i (h : i < xs0.length), xs0[i].fits) :
    Calls Try.prog 7 #[.slice A0 xs0.length c0] w fun e w' => e = .returned (.bool true) ∧ Below w.heap.size w w' := by
  have H0 := Lib.hid h0
  clear h0
  have HF0 := Lib.hid f0
  clear f0
  go_enter Try.func7, Try.ntmps7
  have hb := Below.refl w.heap.size w
  go_wp2_with fail
  refine (szIncidentS_any _ _ xs0 _ _ (H0.out.below hb) (fun i hi => SIncident.sizes (HF0.out i hi)) n0 (by omega) (by omega)).mono ?_
  rintro e u0 ⟨⟨r0, rfl, hr0_1, hr0_2, hr0_3⟩, hb0⟩
  have hs0_ : w.heap.size ≤ u0.heap.size := hb0.size
  have hb := Bel.trans hb hb0
  clear hb0
  by_cases hr0 : r0 < 0
  · go_wp2
    go_ret
    exact ⟨rfl, hb⟩
  have hr0_0 : 0 ≤ r0 := by omega
  have hN0 : xs0.length ≤ 1048576 := by omega
  go_wp2_with fail
  refine (toIncidentS_any _ _ xs0 _ (H0.out.below hb) hN0).mono ?_
  rintro e u1 ⟨rfl, hb1, O0⟩
  have hs1_ : u0.heap.size ≤ u1.heap.size := hb1.size
  have hl1_ : u0.heap.size < u1.heap.size := O0.arr.1
  have hb := Bel.trans hb hb1
  clear hb1
  go_wp2_with fail
  refine (sValidIncidents_any xs0 _ _ _ O0.arr hN0 (fun i hi => SIncident.sizes (HF0.out i hi))).mono ?_
  rintro e u2 ⟨rfl, hb2⟩
  have O0 := O0.below hb2
  have hs2_ : u1.heap.size ≤ u2.heap.size := hb2.size
  have hb := Bel.trans hb hb2
  clear hb2
  clear O0
  go_wp2_with fail
  refine (toIncidentS_any _ _ xs0 _ (H0.out.below hb) hN0).mono ?_
  rintro e u3 ⟨rfl, hb3, O0⟩
  have hs3_ : u2.heap.size ≤ u3.heap.size := hb3.size
  have hl3_ : u2.heap.size < u3.heap.size := O0.arr.1
  have hb := Bel.trans hb hb3
  clear hb3
  go_wp2_with fail
  refine (ValidIncidents_any xs0 _ _ _ O0.arr hN0 (fun i hi => SIncident.sizes (HF0.out i hi))).mono ?_
  rintro e u4 ⟨rfl, hb4⟩
  have O0 := O0.below hb4
  have hs4_ : u3.heap.size ≤ u4.heap.size := hb4.size
  have hb := Bel.trans hb hb4
  clear hb4
  go_wp2_with fail
  refine (toIncidentS_any _ _ xs0 _ (H0.out.below hb) hN0).mono ?_
  rintro e u5 ⟨rfl, hb5, Q⟩
  have O0 := O0.below hb5
  have hb := Bel.trans hb hb5
  clear hb5
  go_wp2_with fail
  refine (eqIncidentS_any _ _ _ _ xs0 _ O0.arr Q.arr hN0).mono ?_
  rintro e u6 ⟨rfl, hb6⟩
  have hs6_ : u5.heap.size ≤ u6.heap.size := hb6.size
  have hb := Bel.trans hb hb6
  clear hb6
  clear Q O0
  go_wp2
  go_ret
  exact ⟨rfl, hb⟩
theorem lawFnExactRateOf (A0 : Option Addr) (c0 : Nat) (xs0 : List SIncident) (x1 : Int) (x2 : Int) (w : World) (h0 : ArgS SIncident.cells 6 w A0 xs0) (n0 : xs0.length ≤ 9223372036854775807) (f0 : ∀ i (h : i < xs0.length), xs0[i].fits) (g1 : -9223372036854775808 ≤ x1) (g1' : x1 ≤ 9223372036854775807) (g2 : -9223372036854775808 ≤ x2) (g2' : x2 ≤ 9223372036854775807) :
    Calls Try.prog 6 #[.slice A0 xs0.length c0, .int .i64 x1, .int .i64 x2] w fun e w' => e = .returned (.bool true) ∧ Below w.heap.size w w' := by
  have H0 := Lib.hid h0
  clear h0
  have HF0 := Lib.hid f0
  clear f0
  go_enter Try.func6, Try.ntmps6
  have hb := Below.refl w.heap.size w
  go_wp2_with fail
  refine (szIncidentS_any _ _ xs0 _ _ (H0.out.below hb) (fun i hi => SIncident.sizes (HF0.out i hi)) n0 (by omega) (by omega)).mono ?_
  rintro e u0 ⟨⟨r0, rfl, hr0_1, hr0_2, hr0_3⟩, hb0⟩
  have hs0_ : w.heap.size ≤ u0.heap.size := hb0.size
  have hb := Bel.trans hb hb0
  clear hb0
  by_cases hr0 : r0 < 0
  · go_wp2
    go_ret
    exact ⟨rfl, hb⟩
  have hr0_0 : 0 ≤ r0 := by omega
  have hN0 : xs0.length ≤ 1048576 := by omega
  go_wp2_with fail
  refine (toIncidentS_any _ _ xs0 _ (H0.out.below hb) hN0).mono ?_
  rintro e u1 ⟨rfl, hb1, O0⟩
  have hs1_ : u0.heap.size ≤ u1.heap.size := hb1.size
  have hl1_ : u0.heap.size < u1.heap.size := O0.arr.1
  have hb := Bel.trans hb hb1
  clear hb1
  go_wp2_with fail
  refine (sRateOf_any xs0 _ _ x1 x2 _ O0.arr hN0 (fun i hi => SIncident.sizes (HF0.out i hi))).mono ?_
  rintro e u2 ⟨rfl, hb2⟩
  have O0 := O0.below hb2
  have hs2_ : u1.heap.size ≤ u2.heap.size := hb2.size
  have hb := Bel.trans hb hb2
  clear hb2
  clear O0
  go_wp2_with fail
  refine (toIncidentS_any _ _ xs0 _ (H0.out.below hb) hN0).mono ?_
  rintro e u3 ⟨rfl, hb3, O0⟩
  have hs3_ : u2.heap.size ≤ u3.heap.size := hb3.size
  have hl3_ : u2.heap.size < u3.heap.size := O0.arr.1
  have hb := Bel.trans hb hb3
  clear hb3
  go_wp2_with fail
  refine (RateOf_any xs0 _ _ x1 x2 _ O0.arr hN0 (fun i hi => SIncident.sizes (HF0.out i hi))).mono ?_
  rintro e u4 ⟨rfl, hb4⟩
  have O0 := O0.below hb4
  have hs4_ : u3.heap.size ≤ u4.heap.size := hb4.size
  have hb := Bel.trans hb hb4
  clear hb4
  go_wp2_with fail
  refine (toIncidentS_any _ _ xs0 _ (H0.out.below hb) hN0).mono ?_
  rintro e u5 ⟨rfl, hb5, Q⟩
  have O0 := O0.below hb5
  have hb := Bel.trans hb hb5
  clear hb5
  go_wp2_with fail
  refine (eqIncidentS_any _ _ _ _ xs0 _ O0.arr Q.arr hN0).mono ?_
  rintro e u6 ⟨rfl, hb6⟩
  have hs6_ : u5.heap.size ≤ u6.heap.size := hb6.size
  have hb := Bel.trans hb hb6
  clear hb6
  clear Q O0
  go_wp2
  go_ret
  exact ⟨rfl, hb⟩
theorem lawFnExactMostDangerous (A0 : Option Addr) (c0 : Nat) (xs0 : List SIncident) (A1 : Option Addr) (c1 : Nat) (xs1 : List Int) (w : World) (h0 : ArgS SIncident.cells 6 w A0 xs0) (n0 : xs0.length ≤ 9223372036854775807) (f0 : ∀ i (h : i < xs0.length), xs0[i].fits) (h1 : ArgS intc 1 w A1 xs1) (n1 : xs1.length ≤ 9223372036854775807) :
    Calls Try.prog 5 #[.slice A0 xs0.length c0, .slice A1 xs1.length c1] w fun e w' => e = .returned (.bool true) ∧ Below w.heap.size w w' := by
  have H0 := Lib.hid h0
  clear h0
  have HF0 := Lib.hid f0
  clear f0
  have H1 := Lib.hid h1
  clear h1
  by_cases hl1 : 1048576 < xs1.length
  · go_enter Try.func5, Try.ntmps5
    go_wp2
    go_ret
    exact ⟨rfl, (by repeat (first | (with_reducible assumption) | (with_reducible exact Below.refl _ _) | (with_reducible refine Bel.alloc ?_ _) | (with_reducible refine Below.drew ?_) | (with_reducible refine Bel.drewN ?_ _) | (with_reducible refine Bel.setCell ?_ (by (try simp) <;> omega) _) | (with_reducible refine Bel.trans ?_ (by assumption))))⟩
  have hN1 : xs1.length ≤ 1048576 := by omega
  go_enter Try.func5, Try.ntmps5
  have hb := Below.refl w.heap.size w
  go_wp2_with fail
  refine (szIncidentS_any _ _ xs0 _ _ (H0.out.below hb) (fun i hi => SIncident.sizes (HF0.out i hi)) n0 (by omega) (by omega)).mono ?_
  rintro e u0 ⟨⟨r0, rfl, hr0_1, hr0_2, hr0_3⟩, hb0⟩
  have hs0_ : w.heap.size ≤ u0.heap.size := hb0.size
  have hb := Bel.trans hb hb0
  clear hb0
  by_cases hr0 : r0 < 0
  · go_wp2
    go_ret
    exact ⟨rfl, hb⟩
  have hr0_0 : 0 ≤ r0 := by omega
  have hN0 : xs0.length ≤ 1048576 := by omega
  go_wp2_with fail
  refine (toIncidentS_any _ _ xs0 _ (H0.out.below hb) hN0).mono ?_
  rintro e u1 ⟨rfl, hb1, O0⟩
  have hs1_ : u0.heap.size ≤ u1.heap.size := hb1.size
  have hl1_ : u0.heap.size < u1.heap.size := O0.arr.1
  have hb := Bel.trans hb hb1
  clear hb1
  go_wp2_with fail
  refine (toInt64S_any _ _ xs1 _ (H1.out.below hb) hN1).mono ?_
  rintro e u2 ⟨rfl, hb2, O1⟩
  have O0 := O0.below hb2
  have hs2_ : u1.heap.size ≤ u2.heap.size := hb2.size
  have hl2_ : u1.heap.size < u2.heap.size := O1.arr.1
  have hb := Bel.trans hb hb2
  clear hb2
  go_wp2_with fail
  refine (sMostDangerous_any xs0 xs1 _ _ _ _ _ O0.arr O1.arr hN0 hN1 (fun i hi => SIncident.sizes (HF0.out i hi))).mono ?_
  rintro e u3 ⟨rfl, hb3⟩
  have O0 := O0.below hb3
  have O1 := O1.below hb3
  have hs3_ : u2.heap.size ≤ u3.heap.size := hb3.size
  have hb := Bel.trans hb hb3
  clear hb3
  clear O0 O1
  go_wp2_with fail
  refine (toIncidentS_any _ _ xs0 _ (H0.out.below hb) hN0).mono ?_
  rintro e u4 ⟨rfl, hb4, O0⟩
  have hs4_ : u3.heap.size ≤ u4.heap.size := hb4.size
  have hl4_ : u3.heap.size < u4.heap.size := O0.arr.1
  have hb := Bel.trans hb hb4
  clear hb4
  go_wp2_with fail
  refine (toInt64S_any _ _ xs1 _ (H1.out.below hb) hN1).mono ?_
  rintro e u5 ⟨rfl, hb5, O1⟩
  have O0 := O0.below hb5
  have hs5_ : u4.heap.size ≤ u5.heap.size := hb5.size
  have hl5_ : u4.heap.size < u5.heap.size := O1.arr.1
  have hb := Bel.trans hb hb5
  clear hb5
  go_wp2_with fail
  refine (MostDangerous_any xs0 xs1 _ _ _ _ _ O0.arr O1.arr hN0 hN1 (fun i hi => SIncident.sizes (HF0.out i hi))).mono ?_
  rintro e u6 ⟨rfl, hb6⟩
  have O0 := O0.below hb6
  have O1 := O1.below hb6
  have hs6_ : u5.heap.size ≤ u6.heap.size := hb6.size
  have hb := Bel.trans hb hb6
  clear hb6
  go_wp2_with fail
  refine (toIncidentS_any _ _ xs0 _ (H0.out.below hb) hN0).mono ?_
  rintro e u7 ⟨rfl, hb7, Q⟩
  have O0 := O0.below hb7
  have O1 := O1.below hb7
  have hb := Bel.trans hb hb7
  clear hb7
  go_wp2_with fail
  refine (eqIncidentS_any _ _ _ _ xs0 _ O0.arr Q.arr hN0).mono ?_
  rintro e u8 ⟨rfl, hb8⟩
  have O1 := O1.below hb8
  have hs8_ : u7.heap.size ≤ u8.heap.size := hb8.size
  have hb := Bel.trans hb hb8
  clear hb8
  clear Q O0
  go_wp2_with fail
  refine (toInt64S_any _ _ xs1 _ (H1.out.below hb) hN1).mono ?_
  rintro e u9 ⟨rfl, hb9, Q⟩
  have O1 := O1.below hb9
  have hb := Bel.trans hb hb9
  clear hb9
  go_wp2_with fail
  refine (eqInt64S_any _ _ _ _ xs1 _ O1.argS Q.argS (by omega)).mono ?_
  rintro e u10 ⟨rfl, hb10⟩
  have hs10_ : u9.heap.size ≤ u10.heap.size := hb10.size
  have hb := Bel.trans hb hb10
  clear hb10
  clear Q O1
  go_wp2
  go_ret
  exact ⟨rfl, hb⟩
theorem lawFnExactBuriedShare (A0 : Option Addr) (c0 : Nat) (xs0 : List SIncident) (x1 : ByteArray) (w : World) (h0 : ArgS SIncident.cells 6 w A0 xs0) (n0 : xs0.length ≤ 9223372036854775807) (f0 : ∀ i (h : i < xs0.length), xs0[i].fits) (g1 : x1.size ≤ 9223372036854775807) :
    Calls Try.prog 3 #[.slice A0 xs0.length c0, .string x1] w fun e w' => e = .returned (.bool true) ∧ Below w.heap.size w w' := by
  have H0 := Lib.hid h0
  clear h0
  have HF0 := Lib.hid f0
  clear f0
  by_cases hl1 : 1048576 < x1.size
  · go_enter Try.func3, Try.ntmps3
    go_wp2
    go_ret
    exact ⟨rfl, (by repeat (first | (with_reducible assumption) | (with_reducible exact Below.refl _ _) | (with_reducible refine Bel.alloc ?_ _) | (with_reducible refine Below.drew ?_) | (with_reducible refine Bel.drewN ?_ _) | (with_reducible refine Bel.setCell ?_ (by (try simp) <;> omega) _) | (with_reducible refine Bel.trans ?_ (by assumption))))⟩
  go_enter Try.func3, Try.ntmps3
  have hb := Below.refl w.heap.size w
  go_wp2_with fail
  refine (szIncidentS_any _ _ xs0 _ _ (H0.out.below hb) (fun i hi => SIncident.sizes (HF0.out i hi)) n0 (by omega) (by omega)).mono ?_
  rintro e u0 ⟨⟨r0, rfl, hr0_1, hr0_2, hr0_3⟩, hb0⟩
  have hs0_ : w.heap.size ≤ u0.heap.size := hb0.size
  have hb := Bel.trans hb hb0
  clear hb0
  by_cases hr0 : r0 < 0
  · go_wp2
    go_ret
    exact ⟨rfl, hb⟩
  have hr0_0 : 0 ≤ r0 := by omega
  have hN0 : xs0.length ≤ 1048576 := by omega
  go_wp2_with fail
  refine (toIncidentS_any _ _ xs0 _ (H0.out.below hb) hN0).mono ?_
  rintro e u1 ⟨rfl, hb1, O0⟩
  have hs1_ : u0.heap.size ≤ u1.heap.size := hb1.size
  have hl1_ : u0.heap.size < u1.heap.size := O0.arr.1
  have hb := Bel.trans hb hb1
  clear hb1
  go_wp2_with fail
  refine (sBuriedShare_any xs0 _ _ x1 _ O0.arr hN0 (fun i hi => SIncident.sizes (HF0.out i hi))).mono ?_
  rintro e u2 ⟨rfl, hb2⟩
  have O0 := O0.below hb2
  have hs2_ : u1.heap.size ≤ u2.heap.size := hb2.size
  have hb := Bel.trans hb hb2
  clear hb2
  clear O0
  go_wp2_with fail
  refine (toIncidentS_any _ _ xs0 _ (H0.out.below hb) hN0).mono ?_
  rintro e u3 ⟨rfl, hb3, O0⟩
  have hs3_ : u2.heap.size ≤ u3.heap.size := hb3.size
  have hl3_ : u2.heap.size < u3.heap.size := O0.arr.1
  have hb := Bel.trans hb hb3
  clear hb3
  go_wp2_with fail
  refine (BuriedShare_any xs0 _ _ x1 _ O0.arr hN0 (fun i hi => SIncident.sizes (HF0.out i hi))).mono ?_
  rintro e u4 ⟨rfl, hb4⟩
  have O0 := O0.below hb4
  have hs4_ : u3.heap.size ≤ u4.heap.size := hb4.size
  have hb := Bel.trans hb hb4
  clear hb4
  go_wp2_with fail
  refine (toIncidentS_any _ _ xs0 _ (H0.out.below hb) hN0).mono ?_
  rintro e u5 ⟨rfl, hb5, Q⟩
  have O0 := O0.below hb5
  have hb := Bel.trans hb hb5
  clear hb5
  go_wp2_with fail
  refine (eqIncidentS_any _ _ _ _ xs0 _ O0.arr Q.arr hN0).mono ?_
  rintro e u6 ⟨rfl, hb6⟩
  have hs6_ : u5.heap.size ≤ u6.heap.size := hb6.size
  have hb := Bel.trans hb hb6
  clear hb6
  clear Q O0
  go_wp2
  go_ret
  exact ⟨rfl, hb⟩
theorem lawFnExactWorstOf (A0 : Option Addr) (c0 : Nat) (xs0 : List SIncident) (w : World) (h0 : ArgS SIncident.cells 6 w A0 xs0) (n0 : xs0.length ≤ 9223372036854775807) (f0 : ∀ i (h : i < xs0.length), xs0[i].fits) :
    Calls Try.prog 9 #[.slice A0 xs0.length c0] w fun e w' => e = .returned (.bool true) ∧ Below w.heap.size w w' := by
  have H0 := Lib.hid h0
  clear h0
  have HF0 := Lib.hid f0
  clear f0
  go_enter Try.func9, Try.ntmps9
  have hb := Below.refl w.heap.size w
  go_wp2_with fail
  refine (szIncidentS_any _ _ xs0 _ _ (H0.out.below hb) (fun i hi => SIncident.sizes (HF0.out i hi)) n0 (by omega) (by omega)).mono ?_
  rintro e u0 ⟨⟨r0, rfl, hr0_1, hr0_2, hr0_3⟩, hb0⟩
  have hs0_ : w.heap.size ≤ u0.heap.size := hb0.size
  have hb := Bel.trans hb hb0
  clear hb0
  by_cases hr0 : r0 < 0
  · go_wp2
    go_ret
    exact ⟨rfl, hb⟩
  have hr0_0 : 0 ≤ r0 := by omega
  have hN0 : xs0.length ≤ 1048576 := by omega
  go_wp2_with fail
  refine (toIncidentS_any _ _ xs0 _ (H0.out.below hb) hN0).mono ?_
  rintro e u1 ⟨rfl, hb1, O0⟩
  have hs1_ : u0.heap.size ≤ u1.heap.size := hb1.size
  have hl1_ : u0.heap.size < u1.heap.size := O0.arr.1
  have hb := Bel.trans hb hb1
  clear hb1
  go_wp2_with fail
  refine (sWorstOf_any xs0 _ _ _ O0.arr hN0 (fun i hi => SIncident.sizes (HF0.out i hi))).mono ?_
  rintro e u2 ⟨rfl, hb2⟩
  have O0 := O0.below hb2
  have hs2_ : u1.heap.size ≤ u2.heap.size := hb2.size
  have hb := Bel.trans hb hb2
  clear hb2
  clear O0
  go_wp2_with fail
  refine (toIncidentS_any _ _ xs0 _ (H0.out.below hb) hN0).mono ?_
  rintro e u3 ⟨rfl, hb3, O0⟩
  have hs3_ : u2.heap.size ≤ u3.heap.size := hb3.size
  have hl3_ : u2.heap.size < u3.heap.size := O0.arr.1
  have hb := Bel.trans hb hb3
  clear hb3
  go_wp2_with fail
  refine (WorstOf_any xs0 _ _ _ O0.arr hN0 (fun i hi => SIncident.sizes (HF0.out i hi))).mono ?_
  rintro e u4 ⟨rfl, hb4⟩
  have O0 := O0.below hb4
  have hs4_ : u3.heap.size ≤ u4.heap.size := hb4.size
  have hb := Bel.trans hb hb4
  clear hb4
  go_wp2_with fail
  refine (toIncidentS_any _ _ xs0 _ (H0.out.below hb) hN0).mono ?_
  rintro e u5 ⟨rfl, hb5, Q⟩
  have O0 := O0.below hb5
  have hb := Bel.trans hb hb5
  clear hb5
  go_wp2_with fail
  refine (eqIncidentS_any _ _ _ _ xs0 _ O0.arr Q.arr hN0).mono ?_
  rintro e u6 ⟨rfl, hb6⟩
  have hs6_ : u5.heap.size ≤ u6.heap.size := hb6.size
  have hb := Bel.trans hb hb6
  clear hb6
  clear Q O0
  go_wp2
  go_ret
  exact ⟨rfl, hb⟩
theorem lawFnExactCalmDays (A0 : Option Addr) (c0 : Nat) (xs0 : List SIncident) (x1 : Int) (x2 : Int) (w : World) (h0 : ArgS SIncident.cells 6 w A0 xs0) (n0 : xs0.length ≤ 9223372036854775807) (f0 : ∀ i (h : i < xs0.length), xs0[i].fits) (g1 : -9223372036854775808 ≤ x1) (g1' : x1 ≤ 9223372036854775807) (g2 : -9223372036854775808 ≤ x2) (g2' : x2 ≤ 9223372036854775807) :
    Calls Try.prog 4 #[.slice A0 xs0.length c0, .int .i64 x1, .int .i64 x2] w fun e w' => e = .returned (.bool true) ∧ Below w.heap.size w w' := by
  have H0 := Lib.hid h0
  clear h0
  have HF0 := Lib.hid f0
  clear f0
  go_enter Try.func4, Try.ntmps4
  have hb := Below.refl w.heap.size w
  go_wp2_with fail
  refine (szIncidentS_any _ _ xs0 _ _ (H0.out.below hb) (fun i hi => SIncident.sizes (HF0.out i hi)) n0 (by omega) (by omega)).mono ?_
  rintro e u0 ⟨⟨r0, rfl, hr0_1, hr0_2, hr0_3⟩, hb0⟩
  have hs0_ : w.heap.size ≤ u0.heap.size := hb0.size
  have hb := Bel.trans hb hb0
  clear hb0
  by_cases hr0 : r0 < 0
  · go_wp2
    go_ret
    exact ⟨rfl, hb⟩
  have hr0_0 : 0 ≤ r0 := by omega
  have hN0 : xs0.length ≤ 1048576 := by omega
  go_wp2_with fail
  refine (toIncidentS_any _ _ xs0 _ (H0.out.below hb) hN0).mono ?_
  rintro e u1 ⟨rfl, hb1, O0⟩
  have hs1_ : u0.heap.size ≤ u1.heap.size := hb1.size
  have hl1_ : u0.heap.size < u1.heap.size := O0.arr.1
  have hb := Bel.trans hb hb1
  clear hb1
  go_wp2_with fail
  refine (sCalmDays_any xs0 _ _ x1 x2 _ O0.arr hN0 (fun i hi => SIncident.sizes (HF0.out i hi))).mono ?_
  rintro e u2 ⟨rfl, hb2⟩
  have O0 := O0.below hb2
  have hs2_ : u1.heap.size ≤ u2.heap.size := hb2.size
  have hb := Bel.trans hb hb2
  clear hb2
  clear O0
  go_wp2_with fail
  refine (toIncidentS_any _ _ xs0 _ (H0.out.below hb) hN0).mono ?_
  rintro e u3 ⟨rfl, hb3, O0⟩
  have hs3_ : u2.heap.size ≤ u3.heap.size := hb3.size
  have hl3_ : u2.heap.size < u3.heap.size := O0.arr.1
  have hb := Bel.trans hb hb3
  clear hb3
  go_wp2_with fail
  refine (CalmDays_any xs0 _ _ x1 x2 _ O0.arr hN0 (fun i hi => SIncident.sizes (HF0.out i hi))).mono ?_
  rintro e u4 ⟨rfl, hb4⟩
  have O0 := O0.below hb4
  have hs4_ : u3.heap.size ≤ u4.heap.size := hb4.size
  have hb := Bel.trans hb hb4
  clear hb4
  go_wp2_with fail
  refine (toIncidentS_any _ _ xs0 _ (H0.out.below hb) hN0).mono ?_
  rintro e u5 ⟨rfl, hb5, Q⟩
  have O0 := O0.below hb5
  have hb := Bel.trans hb hb5
  clear hb5
  go_wp2_with fail
  refine (eqIncidentS_any _ _ _ _ xs0 _ O0.arr Q.arr hN0).mono ?_
  rintro e u6 ⟨rfl, hb6⟩
  have hs6_ : u5.heap.size ≤ u6.heap.size := hb6.size
  have hb := Bel.trans hb hb6
  clear hb6
  clear Q O0
  go_wp2
  go_ret
  exact ⟨rfl, hb⟩
theorem lawFnExactWithinDays (A0 : Option Addr) (c0 : Nat) (xs0 : List SIncident) (x1 : Int) (w : World) (h0 : ArgS SIncident.cells 6 w A0 xs0) (n0 : xs0.length ≤ 9223372036854775807) (f0 : ∀ i (h : i < xs0.length), xs0[i].fits) (g1 : -9223372036854775808 ≤ x1) (g1' : x1 ≤ 9223372036854775807) :
    Calls Try.prog 8 #[.slice A0 xs0.length c0, .int .i64 x1] w fun e w' => e = .returned (.bool true) ∧ Below w.heap.size w w' := by
  have H0 := Lib.hid h0
  clear h0
  have HF0 := Lib.hid f0
  clear f0
  go_enter Try.func8, Try.ntmps8
  have hb := Below.refl w.heap.size w
  go_wp2_with fail
  refine (szIncidentS_any _ _ xs0 _ _ (H0.out.below hb) (fun i hi => SIncident.sizes (HF0.out i hi)) n0 (by omega) (by omega)).mono ?_
  rintro e u0 ⟨⟨r0, rfl, hr0_1, hr0_2, hr0_3⟩, hb0⟩
  have hs0_ : w.heap.size ≤ u0.heap.size := hb0.size
  have hb := Bel.trans hb hb0
  clear hb0
  by_cases hr0 : r0 < 0
  · go_wp2
    go_ret
    exact ⟨rfl, hb⟩
  have hr0_0 : 0 ≤ r0 := by omega
  have hN0 : xs0.length ≤ 1048576 := by omega
  go_wp2_with fail
  refine (toIncidentS_any _ _ xs0 _ (H0.out.below hb) hN0).mono ?_
  rintro e u1 ⟨rfl, hb1, O0⟩
  have hs1_ : u0.heap.size ≤ u1.heap.size := hb1.size
  have hl1_ : u0.heap.size < u1.heap.size := O0.arr.1
  have hb := Bel.trans hb hb1
  clear hb1
  go_wp2_with fail
  refine (sWithinDays_any xs0 _ _ x1 _ O0.arr hN0 (fun i hi => SIncident.sizes (HF0.out i hi))).mono ?_
  rintro e u2 ⟨rfl, hb2⟩
  have O0 := O0.below hb2
  have hs2_ : u1.heap.size ≤ u2.heap.size := hb2.size
  have hb := Bel.trans hb hb2
  clear hb2
  clear O0
  go_wp2_with fail
  refine (toIncidentS_any _ _ xs0 _ (H0.out.below hb) hN0).mono ?_
  rintro e u3 ⟨rfl, hb3, O0⟩
  have hs3_ : u2.heap.size ≤ u3.heap.size := hb3.size
  have hl3_ : u2.heap.size < u3.heap.size := O0.arr.1
  have hb := Bel.trans hb hb3
  clear hb3
  go_wp2_with fail
  refine (WithinDays_any xs0 _ x1 _ O0.arr hN0 (fun i hi => SIncident.sizes (HF0.out i hi))).mono ?_
  rintro e u4 ⟨rfl, hb4⟩
  have O0 := O0.below hb4
  have hs4_ : u3.heap.size ≤ u4.heap.size := hb4.size
  have hb := Bel.trans hb hb4
  clear hb4
  go_wp2_with fail
  refine (toIncidentS_any _ _ xs0 _ (H0.out.below hb) hN0).mono ?_
  rintro e u5 ⟨rfl, hb5, Q⟩
  have O0 := O0.below hb5
  have hb := Bel.trans hb hb5
  clear hb5
  go_wp2_with fail
  refine (eqIncidentS_any _ _ _ _ xs0 _ O0.arr Q.arr hN0).mono ?_
  rintro e u6 ⟨rfl, hb6⟩
  have hs6_ : u5.heap.size ≤ u6.heap.size := hb6.size
  have hb := Bel.trans hb hb6
  clear hb6
  clear Q O0
  go_wp2
  go_ret
  exact ⟨rfl, hb⟩
end Go.Proofs.Ytabhojeikhfcfaa
