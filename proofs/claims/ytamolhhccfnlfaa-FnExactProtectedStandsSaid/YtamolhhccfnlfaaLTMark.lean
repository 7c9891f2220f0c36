/- markText of the laws package: it returns a text and keeps what is below. -/
import Derived.Test.YtamolhhccfnlfaaChecked
import Derived.Test.YtamolhhccfnlfaaBase
import Derived.Laws.IdiomStrings
namespace Go.Proofs.Ytamolhhccfnlfaa
open Go.RowKit
set_option maxHeartbeats 400000
set_option maxRecDepth 100000
theorem markText_any (k : Int) (w : World) (h0 : 0 ≤ k) (h1 : k ≤ 1000000000) :
    Calls Try.prog 106 #[.int .i64 k] w fun e w' => (∃ s, e = .returned (.string s)) ∧ Below w.heap.size w w' := by
  go_enter Try.func106, Try.ntmps106
  go_wp2_with fail
  · go_ret
    exact ⟨⟨_, rfl⟩, Below.refl _ _⟩
  go_loopw [0, 3] (fun i s wr => ∃ (j : Int) (t : ByteArray), 0 ≤ j ∧ (t.size : Int) + j ≤ 1000000000 ∧ i = .int .i64 j ∧ s = .string t ∧ Below w.heap.size w wr) (fun i _ wr => (intOf i).toNat)
  case atStart => exact ⟨k, ⟨#[]⟩, by omega, by simp [ByteArray.size]; omega, rfl, rfl, Below.refl _ _⟩
  case round =>
    obtain ⟨j, t, hj0, hj1, rfl, rfl, hbel⟩ := hrel
    by_cases hlt : 0 < j
    · have hm : 0 ≤ j % 10 ∧ j % 10 < 10 := by omega
      have hu : ((UInt8.ofNat (48 + j % 10).toNat).toNat : Int) = 48 + j % 10 := by
        rw [UInt8.toNat_ofNat']; omega
      have hcv := run_convert_bytes_back (P := Try.prog) (wr.alloc (.cells #[.int .u8 (48 + j % 10)] 5)) 43 9 5 ⟨wr.heap.size, 0, none⟩ 1 [UInt8.ofNat (48 + j % 10).toNat] (by kernel_rfl) (by kernel_rfl) (by kernel_rfl) (fun i hi => by
        obtain rfl : i = 0 := by simp at hi; omega
        simp only [List.getElem_cons_zero, hu]
        exact (Box.new wr 5 #[.int .u8 (48 + j % 10)]).cell 0)
      simp only [List.length_cons, List.length_nil, Nat.zero_add] at hcv
      go_wp2
      go_roundw
      case rel => exact ⟨_, _, by omega, by clear hcv hu; rw [ByteArray.size_append]; have h1 : ByteArray.size { data := #[UInt8.ofNat (48 + j % 10).toNat] } = 1 := rfl; omega, rfl, rfl, (by repeat (first | (with_reducible assumption) | (with_reducible exact Below.refl _ _) | (with_reducible refine Bel.alloc ?_ _) | (with_reducible refine Below.drew ?_) | (with_reducible refine Bel.drewN ?_ _) | (with_reducible refine Bel.setCell ?_ (by (try simp) <;> omega) _) | (with_reducible refine Bel.trans ?_ (by assumption))))⟩
      case measure => simp [intOf]; omega
    · obtain rfl : j = 0 := by omega
      go_wp2
      go_ret
      exact ⟨⟨_, rfl⟩, hbel⟩
theorem grown_of_below {w w' : World} (h : Below w.heap.size w w') (row : Option Nat) : w.grownBy w' row := ⟨h.os, h.tape, h.output, h.size, fun k hk _ => h.block k hk⟩
end Go.Proofs.Ytamolhhccfnlfaa
