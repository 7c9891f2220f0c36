/- FnExactKitShort: for every input the law answers true and leaves its arguments alone. No condition. -/
import Derived.Test.YtinijfdopkohfaaL24k
import Derived.Test.YtinijfdopkohfaaLTGroup
namespace Go.Proofs.Ytinijfdopkohfaa
set_option linter.unusedSimpArgs false
set_option linter.unusedVariables false
open Go.RowKit
set_option maxHeartbeats 400000
theorem lawFnExactKitShort (A0 : Option Addr) (c0 : Nat) (xs0 : List SGroup) (w : World) (h0 : ArgS SGroup.cells 7 w A0 xs0) (n0 : xs0.length ≤ 9223372036854775807) (f0 : ∀ i (h : i < xs0.length), xs0[i].fits) :
    Calls Try.prog 3 #[.slice A0 xs0.length c0] w fun e w' => e = .returned (.bool true) ∧ Below w.heap.size w w' := by
  have H0 := Lib.hid h0
  clear h0
  have HF0 := Lib.hid f0
  clear f0
  go_enter Try.func3, Try.ntmps3
  have hb := Below.refl w.heap.size w
  go_wp2_with fail
  refine (szGroupS_any _ _ xs0 _ _ (H0.out.below hb) (fun i hi => SGroup.sizes (HF0.out i hi)) n0 (by omega) (by omega)).mono ?_
  rintro e u0 ⟨⟨r0, rfl, hr0_1, hr0_2, hr0_3⟩, hb0⟩
  have hs0_ : w.heap.size ≤ u0.heap.size := hb0.size
  have hb := Bel.trans hb hb0
  clear hb0
  by_cases hr0 : r0 < 0
  · go_wp2
    go_ret
    exact ⟨rfl, hb⟩
  have hr0_0 : 0 ≤ r0 := by omega
  have hN0 : xs0.length ≤ 1048576 := by omega
  go_wp2_with fail
  refine (toGroupS_any _ _ xs0 _ (H0.out.below hb) hN0).mono ?_
  rintro e u1 ⟨rfl, hb1, O0⟩
  have hs1_ : u0.heap.size ≤ u1.heap.size := hb1.size
  have hl1_ : u0.heap.size < u1.heap.size := O0.arr.1
  have hb := Bel.trans hb hb1
  clear hb1
  go_wp2_with fail
  refine (sKitShort_any xs0 _ _ _ O0.arr hN0 (fun i hi => SGroup.sizes (HF0.out i hi))).mono ?_
  rintro e u2 ⟨rfl, hb2⟩
  have O0 := O0.below hb2
  have hs2_ : u1.heap.size ≤ u2.heap.size := hb2.size
  have hb := Bel.trans hb hb2
  clear hb2
  clear O0
  go_wp2_with fail
  refine (toGroupS_any _ _ xs0 _ (H0.out.below hb) hN0).mono ?_
  rintro e u3 ⟨rfl, hb3, O0⟩
  have hs3_ : u2.heap.size ≤ u3.heap.size := hb3.size
  have hl3_ : u2.heap.size < u3.heap.size := O0.arr.1
  have hb := Bel.trans hb hb3
  clear hb3
  go_wp2_with fail
  refine (KitShort_any xs0 _ _ _ O0.arr hN0 (fun i hi => SGroup.sizes (HF0.out i hi))).mono ?_
  rintro e u4 ⟨rfl, hb4⟩
  have O0 := O0.below hb4
  have hs4_ : u3.heap.size ≤ u4.heap.size := hb4.size
  have hb := Bel.trans hb hb4
  clear hb4
  go_wp2_with fail
  refine (toGroupS_any _ _ xs0 _ (H0.out.below hb) hN0).mono ?_
  rintro e u5 ⟨rfl, hb5, Q⟩
  have O0 := O0.below hb5
  have hb := Bel.trans hb hb5
  clear hb5
  go_wp2_with fail
  refine (eqGroupS_any _ _ _ _ xs0 _ O0.arr Q.arr hN0).mono ?_
  rintro e u6 ⟨rfl, hb6⟩
  have hs6_ : u5.heap.size ≤ u6.heap.size := hb6.size
  have hb := Bel.trans hb hb6
  clear hb6
  clear Q O0
  go_wp2
  go_ret
  exact ⟨rfl, hb⟩
end Go.Proofs.Ytinijfdopkohfaa
