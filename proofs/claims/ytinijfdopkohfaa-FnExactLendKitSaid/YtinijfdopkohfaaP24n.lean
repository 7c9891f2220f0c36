/- FnExactLendKit: for every input the law answers true and leaves its arguments alone. No condition. -/
import Derived.Test.YtinijfdopkohfaaL24n
import Derived.Test.YtinijfdopkohfaaLTGroup
import Derived.Test.YtinijfdopkohfaaRXGroup
namespace Go.Proofs.Ytinijfdopkohfaa
set_option linter.unusedSimpArgs false
set_option linter.unusedVariables false
open Go.RowKit
set_option maxHeartbeats 400000
theorem lawFnExactLendKit (A0 : Option Addr) (c0 : Nat) (xs0 : List SGroup) (x1 : Int) (x2 : Int) (w : World) (h0 : ArgS SGroup.cells 7 w A0 xs0) (n0 : xs0.length ≤ 9223372036854775807) (f0 : ∀ i (h : i < xs0.length), xs0[i].fits) (g1 : -9223372036854775808 ≤ x1) (g1' : x1 ≤ 9223372036854775807) (g2 : -9223372036854775808 ≤ x2) (g2' : x2 ≤ 9223372036854775807) :
    Calls Try.prog 5 #[.slice A0 xs0.length c0, .int .i64 x1, .int .i64 x2] w fun e w' => e = .returned (.bool true) ∧ Below w.heap.size w w' := by
  have H0 := Lib.hid h0
  clear h0
  have HF0 := Lib.hid f0
  clear f0
  go_enter Try.func5, Try.ntmps5
  have hb := Below.refl w.heap.size w
  go_wp2_with fail
  refine (szGroupS_any _ _ xs0 _ _ (H0.out.below hb) (fun i hi => SGroup.sizes (HF0.out i hi)) n0 (by omega) (by omega)).mono ?_
  rintro e u0 ⟨⟨r0, rfl, hr0_1, hr0_2, hr0_3⟩, hb0⟩
  have hs0_ : w.heap.size ≤ u0.heap.size := hb0.size
  have hb := Bel.trans hb hb0
  clear hb0
  by_cases hr0 : r0 < 0
  · go_wp2
    go_ret
    exact ⟨rfl, hb⟩
  have hr0_0 : 0 ≤ r0 := by omega
  have hN0 : xs0.length ≤ 1048576 := by omega
  go_wp2_with fail
  refine (toGroupS_any _ _ xs0 _ (H0.out.below hb) hN0).mono ?_
  rintro e u1 ⟨rfl, hb1, O0⟩
  have hs1_ : u0.heap.size ≤ u1.heap.size := hb1.size
  have hl1_ : u0.heap.size < u1.heap.size := O0.arr.1
  have hb := Bel.trans hb hb1
  clear hb1
  go_wp2_with fail
  refine (sLendKit_any xs0 _ _ x1 x2 _ O0.arr hN0 (fun i hi => SGroup.sizes (HF0.out i hi))).mono ?_
  rintro e u2 ⟨⟨v0, rfl, R0⟩, hb2⟩
  have O0 := O0.below hb2
  have hs2_ : u1.heap.size ≤ u2.heap.size := hb2.size
  have hb := Bel.trans hb hb2
  clear hb2
  clear O0
  have hL : (lkRes xs0 x1 x2).1.length ≤ 1048576 := Nat.le_trans (lkRes_len xs0 x1 x2) (by omega)
  obtain ⟨D0, d0, rfl, _⟩ := R0.form (fun _ => rfl)
  have o0 : ∀ g, (Value.slice D0 (lkRes xs0 x1 x2).1.length d0).ownBlock = some g → g < u2.heap.size := fun g h => R0.own_lt h
  have O0L := Lib.hid o0
  clear o0
  go_wp2_with fail
  refine (toGroupS_any _ _ xs0 _ (H0.out.below hb) hN0).mono ?_
  rintro e u3 ⟨rfl, hb3, O0⟩
  have R0 := R0.below hb3
  have hs3_ : u2.heap.size ≤ u3.heap.size := hb3.size
  have hl3_ : u2.heap.size < u3.heap.size := O0.arr.1
  have hb := Bel.trans hb hb3
  clear hb3
  go_wp2_with fail
  refine (LendKit_any xs0 _ _ x1 x2 _ O0.arr hN0 (fun i hi => SGroup.sizes (HF0.out i hi))).mono ?_
  rintro e u4 ⟨⟨v1, rfl, R1⟩, hb4⟩
  have R0 := R0.below hb4
  have O0 := O0.below hb4
  have hs4_ : u3.heap.size ≤ u4.heap.size := hb4.size
  have hb := Bel.trans hb hb4
  clear hb4
  obtain ⟨D1, d1, rfl, _⟩ := R1.form (fun _ => rfl)
  have o1 : ∀ g, (Value.slice D1 (lkRes xs0 x1 x2).1.length d1).ownBlock = some g → u3.heap.size ≤ g := fun g h => R1.own_ge h
  have O1L := Lib.hid o1
  clear o1
  go_wp2_with fail
  refine (eqGroupS_arg _ _ _ _ _ _ (R1.argS fun _ => rfl) (R0.argS fun _ => rfl) (by omega)).mono ?_
  rintro e u5 ⟨rfl, hb5⟩
  have R0 := R0.below hb5
  have O0 := O0.below hb5
  have R1 := R1.below hb5
  have hs5_ : u4.heap.size ≤ u5.heap.size := hb5.size
  have hb := Bel.trans hb hb5
  clear hb5
  go_wp2_with fail
  refine (toGroupS_any _ _ xs0 _ (H0.out.below hb) hN0).mono ?_
  rintro e u6 ⟨rfl, hb6, Q⟩
  have R0 := R0.below hb6
  have O0 := O0.below hb6
  have R1 := R1.below hb6
  have hs6_ : u5.heap.size ≤ u6.heap.size := hb6.size
  have hb := Bel.trans hb hb6
  clear hb6
  go_wp2_with fail
  refine (eqGroupS_any _ _ _ _ xs0 _ O0.arr Q.arr hN0).mono ?_
  rintro e u7 ⟨rfl, hb7⟩
  have R0 := R0.below hb7
  have O0 := O0.below hb7
  have R1 := R1.below hb7
  have hs7_ : u6.heap.size ≤ u7.heap.size := hb7.size
  have hb := Bel.trans hb hb7
  clear hb7
  clear Q
  go_wp2_with fail
  refine (markGroupS_any _ _ xs0 _ _ O0 hN0 (by omega) (by omega)).mono ?_
  rintro e u8 ⟨rfl, hg8⟩
  have R0 := R0.grown hg8 (fun h => absurd (O0L.out _ h) (by omega))
  have R1 := R1.grown hg8 (fun h => absurd (O1L.out _ h) (by omega))
  have hb := hb.trans (below_of_grown hg8 (by omega) (by omega))
  have hs8_ : u7.heap.size ≤ u8.heap.size := hg8.size
  clear hg8
  clear O0
  go_wp2_with fail
  refine (eqGroupS_arg _ _ _ _ _ _ (R1.argS fun _ => rfl) (R0.argS fun _ => rfl) (by omega)).mono ?_
  rintro e u9 ⟨rfl, hb9⟩
  have R0 := R0.below hb9
  have R1 := R1.below hb9
  have hs9_ : u8.heap.size ≤ u9.heap.size := hb9.size
  have hb := Bel.trans hb hb9
  clear hb9
  go_wp2_with fail
  refine (markGroupS_row _ _ 1 _ _ R1 (by omega) (by omega) (by omega)).mono ?_
  rintro e u10 ⟨rfl, M, hg10⟩
  have R0 := R0.grownO hg10 (fun g h h' => absurd (O1L.out _ h') (by have := O0L.out _ h; omega))
  have hb := hb.trans ((Below.refl w.heap.size u9).grown hg10 (by omega) (fun g h => by have := O1L.out _ h; omega))
  have hs10_ : u9.heap.size ≤ u10.heap.size := hg10.size
  clear hg10 R1
  go_wp2_with fail
  refine (heldGroupS_any _ _ _ 1 _ (M.argS fun _ => rfl) (by omega) (by omega) (by omega)).mono ?_
  rintro e u11 ⟨rfl, hb11⟩
  have R0 := R0.below hb11
  have M := M.below hb11
  have hs11_ : u10.heap.size ≤ u11.heap.size := hb11.size
  have hb := Bel.trans hb hb11
  clear hb11
  go_wp2_with fail
  refine (toGroupS_any _ _ xs0 _ (H0.out.below hb) hN0).mono ?_
  rintro e u12 ⟨rfl, hb12, O0⟩
  have R0 := R0.below hb12
  have M := M.below hb12
  have hs12_ : u11.heap.size ≤ u12.heap.size := hb12.size
  have hl12_ : u11.heap.size < u12.heap.size := O0.arr.1
  have hb := Bel.trans hb hb12
  clear hb12
  go_wp2_with fail
  refine (LendKit_any xs0 _ _ x1 x2 _ O0.arr hN0 (fun i hi => SGroup.sizes (HF0.out i hi))).mono ?_
  rintro e u13 ⟨⟨v2, rfl, R2⟩, hb13⟩
  have R0 := R0.below hb13
  have M := M.below hb13
  have O0 := O0.below hb13
  have hs13_ : u12.heap.size ≤ u13.heap.size := hb13.size
  have hb := Bel.trans hb hb13
  clear hb13
  clear O0
  obtain ⟨D2, d2, rfl, _⟩ := R2.form (fun _ => rfl)
  go_wp2_with fail
  refine (eqGroupS_arg _ _ _ _ _ _ (R2.argS fun _ => rfl) (R0.argS fun _ => rfl) (by omega)).mono ?_
  rintro e u14 ⟨rfl, hb14⟩
  have M := M.below hb14
  have hs14_ : u13.heap.size ≤ u14.heap.size := hb14.size
  have hb := Bel.trans hb hb14
  clear hb14
  clear R0 R2
  go_wp2_with fail
  refine (heldGroupS_any _ _ _ 1 _ (M.argS fun _ => rfl) (by omega) (by omega) (by omega)).mono ?_
  rintro e u15 ⟨rfl, hb15⟩
  have hs15_ : u14.heap.size ≤ u15.heap.size := hb15.size
  have hb := Bel.trans hb hb15
  clear hb15
  clear M
  go_wp2
  go_ret
  exact ⟨rfl, hb⟩
end Go.Proofs.Ytinijfdopkohfaa
