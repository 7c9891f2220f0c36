/- FnExactProtectedStands: for every input the law answers true and leaves its arguments alone. No condition. -/
import Derived.Test.YtamolhhccfnlfaaL10d
import Derived.Test.YtamolhhccfnlfaaLTStand
import Derived.Test.YtamolhhccfnlfaaLTInts
namespace Go.Proofs.Ytamolhhccfnlfaa
open Go.RowKit
set_option maxHeartbeats 400000
theorem lawFnExactProtectedStands (A : Option Addr) (c : Nat) (xs : List SStand) (a b : Int) (w : World) (h : ArgS SStand.cells 5 w A xs) (hn : xs.length ≤ 9223372036854775807) (_hf : ∀ i (h : i < xs.length), xs[i].fits) (_g1 : -9223372036854775808 ≤ a) (_g2 : a ≤ 9223372036854775807) (_g3 : -9223372036854775808 ≤ b) (_g4 : b ≤ 9223372036854775807) :
    Calls Try.prog 13 #[.slice A xs.length c, .int .i64 a, .int .i64 b] w fun e w' => e = .returned (.bool true) ∧ Below w.heap.size w w' := by
  have H := Lib.hid h
  have HF := Lib.hid _hf
  clear h _hf
  go_enter Try.func13, Try.ntmps13
  go_wp2_with fail
  refine (szStandS_any _ _ xs _ _ H.out (fun i hi => SStand.sizes (HF.out i hi)) hn (by omega) (by omega)).mono ?_
  rintro e w0 ⟨⟨r1, rfl, hr1, hr2, hr3⟩, b0⟩
  have b0 := b0
  by_cases hr : r1 < 0
  · go_wp2
    go_ret
    exact ⟨rfl, b0⟩
  have hN : xs.length ≤ 1048576 := by omega
  have hr0 : 0 ≤ r1 := by omega
  go_wp2_with fail
  refine (toStandS_any _ _ xs _ (H.out.below b0) hN).mono ?_
  rintro e w1 ⟨rfl, hb, O1⟩
  have hb := Bel.trans b0 hb
  go_wp2_with fail
  refine (sProtectedStands_any xs _ _ a b _ O1.arr hN (fun i hi => SStand.sizes (HF.out i hi))).mono ?_
  rintro e w2 ⟨⟨v0, rfl, R0⟩, hb2⟩
  have hL : (psRes xs a b).1.length ≤ xs.length := psRes_len xs a b
  have hb := Bel.trans hb hb2
  have hs1 := hb.size
  obtain ⟨A0, c0, rfl, _⟩ := R0.form (fun _ => rfl)
  have n0 : (Value.slice A0 (psRes xs a b).1.length c0).ownBlock ≠ some w2.heap.size := fun h => absurd (R0.own_lt h) (Nat.lt_irrefl _)
  have o0 : ∀ g, (Value.slice A0 (psRes xs a b).1.length c0).ownBlock = some g → g < w2.heap.size := fun g h => R0.own_lt h
  have N0 := Lib.hid n0
  have O0 := Lib.hid o0
  clear hb2 O1 n0 o0
  go_wp2_with fail
  refine (toStandS_any _ _ xs _ (H.out.below hb) hN).mono ?_
  rintro e w3 ⟨rfl, hb3, O3⟩
  have hl3 := O3.arr.1
  have R0 := R0.below hb3
  have hb := Bel.trans hb hb3
  have hs2 := hb.size
  clear hb3
  go_wp2_with fail
  refine (ProtectedStands_any xs _ _ a b _ O3.arr hN (fun i hi => SStand.sizes (HF.out i hi))).mono ?_
  rintro e w4 ⟨⟨v1, rfl, R1⟩, hb4⟩
  obtain ⟨A1, c1, rfl, _⟩ := R1.form (fun _ => rfl)
  have n1 : ∀ g, (Value.slice A1 (psRes xs a b).1.length c1).ownBlock = some g → w3.heap.size ≤ g := fun g h => R1.own_ge h
  have N1 := Lib.hid n1
  have R0 := R0.below hb4
  have O3 := O3.below hb4
  have hb := Bel.trans hb hb4
  have hs4 := hb4.size
  clear hb4 n1
  go_wp2_with fail
  refine (eqInt64S_any _ _ _ _ _ _ (R1.argS fun _ => rfl) (R0.argS fun _ => rfl) (by omega)).mono ?_
  rintro e w5 ⟨rfl, hb5⟩
  have R0 := R0.below hb5
  have R1 := R1.below hb5
  have O3 := O3.below hb5
  have hb := Bel.trans hb hb5
  have hs5 := hb5.size
  clear hb5
  go_wp2_with fail
  refine (toStandS_any _ _ xs _ (H.out.below hb) hN).mono ?_
  rintro e w6 ⟨rfl, hb6, O6⟩
  have R0 := R0.below hb6
  have R1 := R1.below hb6
  have O3 := O3.below hb6
  have hb := Bel.trans hb hb6
  have hs6 := hb6.size
  clear hb6
  go_wp2_with fail
  refine (eqStandS_any _ _ _ _ xs _ O3.arr O6.arr hN).mono ?_
  rintro e w7 ⟨rfl, hb7⟩
  have R0 := R0.below hb7
  have R1 := R1.below hb7
  have O3 := O3.below hb7
  have hb := Bel.trans hb hb7
  have hs7 := hb7.size
  clear hb7 O6
  go_wp2_with fail
  refine (markStandS_any _ _ xs 1 _ O3 hN (by omega) (by omega)).mono ?_
  rintro e w8 ⟨rfl, hg8⟩
  have R0 := R0.grown hg8 N0.out
  have R1 := R1.grown hg8 (fun h => absurd (N1.out _ h) (by omega))
  have hb := hb.trans (below_of_grown hg8 (by omega) (by omega))
  have hs8 := hg8.size
  clear hg8 O3
  go_wp2_with fail
  refine (eqInt64S_any _ _ _ _ _ _ (R1.argS fun _ => rfl) (R0.argS fun _ => rfl) (by omega)).mono ?_
  rintro e w9 ⟨rfl, hb9⟩
  have R0 := R0.below hb9
  have R1 := R1.below hb9
  have hb := Bel.trans hb hb9
  have hs9 := hb9.size
  clear hb9
  go_wp2_with fail
  refine (markInt64S_any _ _ 1 _ _ R1 (by omega) (by omega) (by omega)).mono ?_
  rintro e w10 ⟨rfl, M, hg10⟩
  have R0 := R0.grownO hg10 (fun g h h' => absurd (N1.out _ h') (by have := O0.out _ h; omega))
  have hb := hb.trans ((Below.refl w.heap.size w9).grown hg10 (by omega) (fun g h => by have := N1.out _ h; omega))
  have hs10 := hg10.size
  clear hg10 R1
  go_wp2_with fail
  refine (heldInt64S_any _ _ _ 1 _ (M.argS fun _ => rfl) (by omega) (by omega) (by omega)).mono ?_
  rintro e w11 ⟨rfl, hb11⟩
  have R0 := R0.below hb11
  have M := M.below hb11
  have hb := Bel.trans hb hb11
  have hs11 := hb11.size
  clear hb11
  go_wp2_with fail
  refine (toStandS_any _ _ xs _ (H.out.below hb) hN).mono ?_
  rintro e w12 ⟨rfl, hb12, O12⟩
  have R0 := R0.below hb12
  have M := M.below hb12
  have hb := Bel.trans hb hb12
  have hs12 := hb12.size
  clear hb12
  go_wp2_with fail
  refine (ProtectedStands_any xs _ _ a b _ O12.arr hN (fun i hi => SStand.sizes (HF.out i hi))).mono ?_
  rintro e w13 ⟨⟨v2, rfl, R2⟩, hb13⟩
  obtain ⟨A2, c2, rfl, _⟩ := R2.form (fun _ => rfl)
  have R0 := R0.below hb13
  have M := M.below hb13
  have hb := Bel.trans hb hb13
  clear hb13 O12
  go_wp2_with fail
  refine (eqInt64S_any _ _ _ _ _ _ (R2.argS fun _ => rfl) (R0.argS fun _ => rfl) (by omega)).mono ?_
  rintro e w14 ⟨rfl, hb14⟩
  have M := M.below hb14
  have hb := Bel.trans hb hb14
  clear hb14 R0 R2
  go_wp2_with fail
  refine (heldInt64S_any _ _ _ 1 _ (M.argS fun _ => rfl) (by omega) (by omega) (by omega)).mono ?_
  rintro e w15 ⟨rfl, hb15⟩
  have hb := Bel.trans hb hb15
  clear hb15 M
  go_wp2
  go_ret
  exact ⟨rfl, hb⟩
end Go.Proofs.Ytamolhhccfnlfaa
