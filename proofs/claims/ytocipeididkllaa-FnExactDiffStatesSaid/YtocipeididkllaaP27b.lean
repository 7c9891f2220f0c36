/- FnExactDiffStates: for every input the law answers true and leaves its arguments alone. No condition. -/
import Derived.Test.YtocipeididkllaaL27b
import Derived.Test.YtocipeididkllaaRXC
import Derived.Test.YtocipeididkllaaLTSetting
namespace Go.Proofs.Ytocipeididkllaa
set_option linter.unusedSimpArgs false
set_option linter.unusedVariables false
open Go.RowKit
set_option maxHeartbeats 400000
theorem lawFnExactDiffStates (A0 : Option Addr) (c0 : Nat) (xs0 : List SSetting) (A1 : Option Addr) (c1 : Nat) (xs1 : List SSetting) (w : World) (h0 : ArgS SSetting.cells 2 w A0 xs0) (n0 : xs0.length ≤ 9223372036854775807) (f0 : ∀ i (h : i < xs0.length), xs0[i].fits) (h1 : ArgS SSetting.cells 2 w A1 xs1) (n1 : xs1.length ≤ 9223372036854775807) (f1 : ∀ i (h : i < xs1.length), xs1[i].fits) :
    Calls Try.prog 6 #[.slice A0 xs0.length c0, .slice A1 xs1.length c1] w fun e w' => e = .returned (.bool true) ∧ Below w.heap.size w w' := by
  have H0 := Lib.hid h0
  clear h0
  have HF0 := Lib.hid f0
  clear f0
  have H1 := Lib.hid h1
  clear h1
  have HF1 := Lib.hid f1
  clear f1
  go_enter Try.func6, Try.ntmps6
  have hb := Below.refl w.heap.size w
  go_wp2_with fail
  refine (szSettingS_any _ _ xs0 _ _ (H0.out.below hb) (fun i hi => SSetting.sizes (HF0.out i hi)) n0 (by omega) (by omega)).mono ?_
  rintro e u0 ⟨⟨r0, rfl, hr0_1, hr0_2, hr0_3⟩, hb0⟩
  have hs0_ : w.heap.size ≤ u0.heap.size := hb0.size
  have hb := Bel.trans hb hb0
  clear hb0
  by_cases hr0 : r0 < 0
  · go_wp2
    go_ret
    exact ⟨rfl, hb⟩
  have hr0_0 : 0 ≤ r0 := by omega
  have hN0 : xs0.length ≤ 1048576 := by omega
  go_wp2_with fail
  refine (szSettingS_any _ _ xs1 _ _ (H1.out.below hb) (fun i hi => SSetting.sizes (HF1.out i hi)) n1 (by omega) (by omega)).mono ?_
  rintro e u1 ⟨⟨r1, rfl, hr1_1, hr1_2, hr1_3⟩, hb1⟩
  have hs1_ : u0.heap.size ≤ u1.heap.size := hb1.size
  have hb := Bel.trans hb hb1
  clear hb1
  by_cases hr1 : r1 < 0
  · go_wp2
    go_ret
    exact ⟨rfl, hb⟩
  have hr1_0 : 0 ≤ r1 := by omega
  have hN1 : xs1.length ≤ 1048576 := by omega
  go_wp2_with fail
  refine (toSettingS_any _ _ xs0 _ (H0.out.below hb) hN0).mono ?_
  rintro e u2 ⟨rfl, hb2, O0⟩
  have hs2_ : u1.heap.size ≤ u2.heap.size := hb2.size
  have hl2_ : u1.heap.size < u2.heap.size := O0.arr.1
  have hb := Bel.trans hb hb2
  clear hb2
  go_wp2_with fail
  refine (toSettingS_any _ _ xs1 _ (H1.out.below hb) hN1).mono ?_
  rintro e u3 ⟨rfl, hb3, O1⟩
  have O0 := O0.below hb3
  have hs3_ : u2.heap.size ≤ u3.heap.size := hb3.size
  have hl3_ : u2.heap.size < u3.heap.size := O1.arr.1
  have hb := Bel.trans hb hb3
  clear hb3
  go_wp2_with fail
  refine (sDiffStates_any xs0 xs1 _ _ _ _ _ O0.arr O1.arr hN0 hN1 (fun i hi => SSetting.sizes (HF0.out i hi)) (fun i hi => SSetting.sizes (HF1.out i hi))).mono ?_
  rintro e u4 ⟨⟨v0, rfl, R0⟩, hb4⟩
  have O0 := O0.below hb4
  have O1 := O1.below hb4
  have hs4_ : u3.heap.size ≤ u4.heap.size := hb4.size
  have hb := Bel.trans hb hb4
  clear hb4
  clear O0 O1
  have hL : (dsRes xs0 xs1).1.length ≤ 1048576 := Nat.le_trans (dsRes_len xs0 xs1) (by omega)
  obtain ⟨D0, d0, rfl, _⟩ := R0.form (fun _ => rfl)
  have o0 : ∀ g, (Value.slice D0 (dsRes xs0 xs1).1.length d0).ownBlock = some g → g < u4.heap.size := fun g h => R0.own_lt h
  have O0L := Lib.hid o0
  clear o0
  go_wp2_with fail
  refine (toSettingS_any _ _ xs0 _ (H0.out.below hb) hN0).mono ?_
  rintro e u5 ⟨rfl, hb5, O0⟩
  have R0 := R0.below hb5
  have hs5_ : u4.heap.size ≤ u5.heap.size := hb5.size
  have hl5_ : u4.heap.size < u5.heap.size := O0.arr.1
  have hb := Bel.trans hb hb5
  clear hb5
  go_wp2_with fail
  refine (toSettingS_any _ _ xs1 _ (H1.out.below hb) hN1).mono ?_
  rintro e u6 ⟨rfl, hb6, O1⟩
  have R0 := R0.below hb6
  have O0 := O0.below hb6
  have hs6_ : u5.heap.size ≤ u6.heap.size := hb6.size
  have hl6_ : u5.heap.size < u6.heap.size := O1.arr.1
  have hb := Bel.trans hb hb6
  clear hb6
  go_wp2_with fail
  refine (DiffStates_any xs0 xs1 _ _ _ _ _ O0.arr O1.arr hN0 hN1 (fun i hi => SSetting.sizes (HF0.out i hi)) (fun i hi => SSetting.sizes (HF1.out i hi))).mono ?_
  rintro e u7 ⟨⟨v1, rfl, R1⟩, hb7⟩
  have R0 := R0.below hb7
  have O0 := O0.below hb7
  have O1 := O1.below hb7
  have hs7_ : u6.heap.size ≤ u7.heap.size := hb7.size
  have hb := Bel.trans hb hb7
  clear hb7
  obtain ⟨D1, d1, rfl, _⟩ := R1.form (fun _ => rfl)
  have o1 : ∀ g, (Value.slice D1 (dsRes xs0 xs1).1.length d1).ownBlock = some g → u6.heap.size ≤ g := fun g h => R1.own_ge h
  have O1L := Lib.hid o1
  clear o1
  go_wp2_with fail
  refine (eqChangeS_arg _ _ _ _ _ _ (R1.argS fun _ => rfl) (R0.argS fun _ => rfl) (by omega)).mono ?_
  rintro e u8 ⟨rfl, hb8⟩
  have R0 := R0.below hb8
  have O0 := O0.below hb8
  have O1 := O1.below hb8
  have R1 := R1.below hb8
  have hs8_ : u7.heap.size ≤ u8.heap.size := hb8.size
  have hb := Bel.trans hb hb8
  clear hb8
  go_wp2_with fail
  refine (toSettingS_any _ _ xs0 _ (H0.out.below hb) hN0).mono ?_
  rintro e u9 ⟨rfl, hb9, Q⟩
  have R0 := R0.below hb9
  have O0 := O0.below hb9
  have O1 := O1.below hb9
  have R1 := R1.below hb9
  have hs9_ : u8.heap.size ≤ u9.heap.size := hb9.size
  have hb := Bel.trans hb hb9
  clear hb9
  go_wp2_with fail
  refine (eqSettingS_any _ _ _ _ xs0 _ O0.arr Q.arr hN0).mono ?_
  rintro e u10 ⟨rfl, hb10⟩
  have R0 := R0.below hb10
  have O0 := O0.below hb10
  have O1 := O1.below hb10
  have R1 := R1.below hb10
  have hs10_ : u9.heap.size ≤ u10.heap.size := hb10.size
  have hb := Bel.trans hb hb10
  clear hb10
  clear Q
  go_wp2_with fail
  refine (toSettingS_any _ _ xs1 _ (H1.out.below hb) hN1).mono ?_
  rintro e u11 ⟨rfl, hb11, Q⟩
  have R0 := R0.below hb11
  have O0 := O0.below hb11
  have O1 := O1.below hb11
  have R1 := R1.below hb11
  have hs11_ : u10.heap.size ≤ u11.heap.size := hb11.size
  have hb := Bel.trans hb hb11
  clear hb11
  go_wp2_with fail
  refine (eqSettingS_any _ _ _ _ xs1 _ O1.arr Q.arr hN1).mono ?_
  rintro e u12 ⟨rfl, hb12⟩
  have R0 := R0.below hb12
  have O0 := O0.below hb12
  have O1 := O1.below hb12
  have R1 := R1.below hb12
  have hs12_ : u11.heap.size ≤ u12.heap.size := hb12.size
  have hb := Bel.trans hb hb12
  clear hb12
  clear Q
  go_wp2_with fail
  refine (markSettingS_any _ _ xs0 _ _ O0 hN0 (by omega) (by omega)).mono ?_
  rintro e u13 ⟨rfl, hg13⟩
  have R0 := R0.grown hg13 (fun h => absurd (O0L.out _ h) (by omega))
  have O1 := O1.grown hg13 (by omega)
  have R1 := R1.grown hg13 (fun h => absurd (O1L.out _ h) (by omega))
  have hb := hb.trans (below_of_grown hg13 (by omega) (by omega))
  have hs13_ : u12.heap.size ≤ u13.heap.size := hg13.size
  clear hg13
  clear O0
  go_wp2_with fail
  refine (markSettingS_any _ _ xs1 _ _ O1 hN1 (by omega) (by omega)).mono ?_
  rintro e u14 ⟨rfl, hg14⟩
  have R0 := R0.grown hg14 (fun h => absurd (O0L.out _ h) (by omega))
  have R1 := R1.grown hg14 (fun h => absurd (O1L.out _ h) (by omega))
  have hb := hb.trans (below_of_grown hg14 (by omega) (by omega))
  have hs14_ : u13.heap.size ≤ u14.heap.size := hg14.size
  clear hg14
  clear O1
  go_wp2_with fail
  refine (eqChangeS_arg _ _ _ _ _ _ (R1.argS fun _ => rfl) (R0.argS fun _ => rfl) (by omega)).mono ?_
  rintro e u15 ⟨rfl, hb15⟩
  have R0 := R0.below hb15
  have R1 := R1.below hb15
  have hs15_ : u14.heap.size ≤ u15.heap.size := hb15.size
  have hb := Bel.trans hb hb15
  clear hb15
  go_wp2_with fail
  refine (markChangeS_row _ _ 1 _ _ R1 (by omega) (by omega) (by omega)).mono ?_
  rintro e u16 ⟨rfl, M, hg16⟩
  have R0 := R0.grownO hg16 (fun g h h' => absurd (O1L.out _ h') (by have := O0L.out _ h; omega))
  have hb := hb.trans ((Below.refl w.heap.size u15).grown hg16 (by omega) (fun g h => by have := O1L.out _ h; omega))
  have hs16_ : u15.heap.size ≤ u16.heap.size := hg16.size
  clear hg16 R1
  go_wp2_with fail
  refine (heldChangeS_any _ _ _ 1 _ (M.argS fun _ => rfl) (by omega) (by omega) (by omega)).mono ?_
  rintro e u17 ⟨rfl, hb17⟩
  have R0 := R0.below hb17
  have M := M.below hb17
  have hs17_ : u16.heap.size ≤ u17.heap.size := hb17.size
  have hb := Bel.trans hb hb17
  clear hb17
  go_wp2_with fail
  refine (toSettingS_any _ _ xs0 _ (H0.out.below hb) hN0).mono ?_
  rintro e u18 ⟨rfl, hb18, O0⟩
  have R0 := R0.below hb18
  have M := M.below hb18
  have hs18_ : u17.heap.size ≤ u18.heap.size := hb18.size
  have hl18_ : u17.heap.size < u18.heap.size := O0.arr.1
  have hb := Bel.trans hb hb18
  clear hb18
  go_wp2_with fail
  refine (toSettingS_any _ _ xs1 _ (H1.out.below hb) hN1).mono ?_
  rintro e u19 ⟨rfl, hb19, O1⟩
  have R0 := R0.below hb19
  have M := M.below hb19
  have O0 := O0.below hb19
  have hs19_ : u18.heap.size ≤ u19.heap.size := hb19.size
  have hl19_ : u18.heap.size < u19.heap.size := O1.arr.1
  have hb := Bel.trans hb hb19
  clear hb19
  go_wp2_with fail
  refine (DiffStates_any xs0 xs1 _ _ _ _ _ O0.arr O1.arr hN0 hN1 (fun i hi => SSetting.sizes (HF0.out i hi)) (fun i hi => SSetting.sizes (HF1.out i hi))).mono ?_
  rintro e u20 ⟨⟨v2, rfl, R2⟩, hb20⟩
  have R0 := R0.below hb20
  have M := M.below hb20
  have O0 := O0.below hb20
  have O1 := O1.below hb20
  have hs20_ : u19.heap.size ≤ u20.heap.size := hb20.size
  have hb := Bel.trans hb hb20
  clear hb20
  clear O0 O1
  obtain ⟨D2, d2, rfl, _⟩ := R2.form (fun _ => rfl)
  go_wp2_with fail
  refine (eqChangeS_arg _ _ _ _ _ _ (R2.argS fun _ => rfl) (R0.argS fun _ => rfl) (by omega)).mono ?_
  rintro e u21 ⟨rfl, hb21⟩
  have M := M.below hb21
  have hs21_ : u20.heap.size ≤ u21.heap.size := hb21.size
  have hb := Bel.trans hb hb21
  clear hb21
  clear R0 R2
  go_wp2_with fail
  refine (heldChangeS_any _ _ _ 1 _ (M.argS fun _ => rfl) (by omega) (by omega) (by omega)).mono ?_
  rintro e u22 ⟨rfl, hb22⟩
  have hs22_ : u21.heap.size ≤ u22.heap.size := hb22.size
  have hb := Bel.trans hb hb22
  clear hb22
  clear M
  go_wp2
  go_ret
  exact ⟨rfl, hb⟩
end Go.Proofs.Ytocipeididkllaa
