/- FnExactWeakestStand: for every input the law answers true and leaves its arguments alone. No condition. -/
import Derived.Test.YtamolhhccfnlfaaL10c
import Derived.Test.YtamolhhccfnlfaaLTStand
namespace Go.Proofs.Ytamolhhccfnlfaa
open Go.RowKit
set_option maxHeartbeats 400000
/-- FnExactWeakestStand -/
theorem lawFnExactWeakestStand (A : Option Addr) (c : Nat) (xs : List SStand) (a : Int) (w : World) (h : ArgS SStand.cells 5 w A xs) (hn : xs.length ≤ 9223372036854775807) (_hf : ∀ i (h : i < xs.length), xs[i].fits)
    (_g1 : -9223372036854775808 ≤ a) (_g2 : a ≤ 9223372036854775807) :
    Calls Try.prog 11 #[.slice A xs.length c, .int .i64 a] w fun e w' => e = .returned (.bool true) ∧ Below w.heap.size w w' := by
  have H := Lib.hid h
  have HF := Lib.hid _hf
  clear h _hf
  go_enter Try.func11, Try.ntmps11
  go_wp2_with fail
  refine (szStandS_any _ _ xs _ _ H.out (fun i hi => SStand.sizes (HF.out i hi)) hn (by omega) (by omega)).mono ?_
  rintro e w0 ⟨⟨r1, rfl, hr1, hr2, hr3⟩, b0⟩
  have b0 := b0
  by_cases hr : r1 < 0
  · go_wp2
    go_ret
    exact ⟨rfl, b0⟩
  have hr0 : 0 ≤ r1 := by omega
  have hN : xs.length ≤ 1048576 := by omega
  go_wp2_with fail
  refine (toStandS_any _ _ xs _ (H.out.below b0) hN).mono ?_
  rintro e w1 ⟨rfl, hb1, ho1⟩
  have b1 := Bel.trans b0 hb1
  go_wp2_with fail
  refine (sWeakestStand_any xs _ _ a _ ho1.arr hN (fun i hi => SStand.sizes (HF.out i hi))).mono ?_
  rintro e w2 ⟨rfl, hb2⟩
  have b2 := Bel.trans b1 hb2
  go_wp2_with fail
  refine (toStandS_any _ _ xs _ (H.out.below b2) hN).mono ?_
  rintro e w3 ⟨rfl, hb3, ho3⟩
  have b3 := Bel.trans b2 hb3
  go_wp2_with fail
  refine (WeakestStand_any xs _ _ a _ ho3.arr hN (fun i hi => SStand.sizes (HF.out i hi))).mono ?_
  rintro e w4 ⟨rfl, hb4⟩
  have b4 := Bel.trans b3 hb4
  have hl3 := ho3.arr.1
  have ho4 := ho3.below hb4
  go_wp2_with fail
  refine (toStandS_any _ _ xs _ (H.out.below b4) hN).mono ?_
  rintro e w5 ⟨rfl, hb5, ho5⟩
  have b5 := Bel.trans b4 hb5
  have ho6 := ho4.below hb5
  go_wp2_with fail
  refine (eqStandS_any _ _ _ _ xs _ ho6.arr ho5.arr hN).mono ?_
  rintro e w6 ⟨rfl, hb6⟩
  go_wp2
  go_ret
  exact ⟨rfl, Bel.trans b5 hb6⟩
end Go.Proofs.Ytamolhhccfnlfaa
