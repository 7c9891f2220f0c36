/- markText of the laws package: it returns a text and keeps what is below. -/
import Derived.Test.YtfbnckgfgaddkaaChecked
import Derived.Test.YtfbnckgfgaddkaaBase
import Derived.Laws.IdiomStrings
namespace Go.Proofs.Ytfbnckgfgaddkaa
set_option linter.unusedSimpArgs false
set_option linter.unusedVariables false
open Go.RowKit
set_option maxHeartbeats 400000
set_option maxRecDepth 100000
/-- the decimal digits of j ahead of t -/
def mrest (j : Nat) (t : ByteArray) : ByteArray := if j = 0 then t else mrest (j / 10) ((⟨#[UInt8.ofNat (48 + j % 10)]⟩ : ByteArray) ++ t)
termination_by j
decreasing_by omega
theorem mrest_0 (t : ByteArray) : mrest 0 t = t := by rw [mrest]; rfl
theorem mrest_step {j : Int} (h : 0 < j) (t : ByteArray) : mrest (j / 10).toNat ((⟨#[UInt8.ofNat (48 + j % 10).toNat]⟩ : ByteArray) ++ t) = mrest j.toNat t := by
  conv => rhs; rw [mrest]
  rw [if_neg (by omega), show (48 + j % 10).toNat = 48 + j.toNat % 10 by omega, show (j / 10).toNat = j.toNat / 10 by omega]
/-- the mark of a number as text -/
def mtext (k : Int) : ByteArray := if k ≤ 0 then ⟨#[109, 48]⟩ else (⟨#[109]⟩ : ByteArray) ++ mrest k.toNat ⟨#[]⟩
theorem mtext_0 {k : Int} (h : k ≤ 0) : mtext k = ⟨#[109, 48]⟩ := if_pos h
theorem mtext_pos {k : Int} {t : ByteArray} (h : ¬ k ≤ 0) (ht : mrest k.toNat ⟨#[]⟩ = t) : mtext k = (⟨#[109]⟩ : ByteArray) ++ t := by rw [mtext, if_neg h, ht]
theorem ret_str {a b : ByteArray} (h : a = b) : Ending.returned (.string a) = .returned (.string b) := by rw [h]
theorem markText_is (k : Int) (w : World) (h0 : 0 ≤ k) (h1 : k ≤ 1000000000) :
    Calls Try.prog 30 #[.int .i64 k] w fun e w' => e = .returned (.string (mtext k)) ∧ Below w.heap.size w w' := by
  go_enter Try.func30, Try.ntmps30
  go_wp2_with fail
  · go_ret
    exact ⟨ret_str (mtext_0 (by omega)).symm, Below.refl _ _⟩
  go_loopw [0, 3] (fun i s wr => ∃ (j : Int) (t : ByteArray), 0 ≤ j ∧ (t.size : Int) + j ≤ 1000000000 ∧ i = .int .i64 j ∧ s = .string t ∧ mrest j.toNat t = mrest k.toNat ⟨#[]⟩ ∧ Below w.heap.size w wr) (fun i _ wr => (intOf i).toNat)
  case atStart => exact ⟨k, ⟨#[]⟩, by omega, by simp [ByteArray.size]; omega, rfl, rfl, rfl, Below.refl _ _⟩
  case round =>
    obtain ⟨j, t, hj0, hj1, rfl, rfl, hmr, hbel⟩ := hrel
    have HM := Lib.hid hmr
    clear hmr
    by_cases hlt : 0 < j
    · have hm : 0 ≤ j % 10 ∧ j % 10 < 10 := by omega
      have hu : ((UInt8.ofNat (48 + j % 10).toNat).toNat : Int) = 48 + j % 10 := by
        rw [UInt8.toNat_ofNat']; omega
      have hcv := run_convert_bytes_back (P := Try.prog) (wr.alloc (.cells #[.int .u8 (48 + j % 10)] 5)) 54 9 5 ⟨wr.heap.size, 0, none⟩ 1 [UInt8.ofNat (48 + j % 10).toNat] (by kernel_rfl) (by kernel_rfl) (by kernel_rfl) (fun i hi => by
        obtain rfl : i = 0 := by simp at hi; omega
        simp only [List.getElem_cons_zero, hu]
        exact (Box.new wr 5 #[.int .u8 (48 + j % 10)]).cell 0)
      simp only [List.length_cons, List.length_nil, Nat.zero_add] at hcv
      go_wp2
      go_roundw
      case rel => exact ⟨_, _, by omega, by clear hcv hu; rw [ByteArray.size_append]; have h1 : ByteArray.size { data := #[UInt8.ofNat (48 + j % 10).toNat] } = 1 := rfl; omega, rfl, rfl, by rw [mrest_step hlt]; exact HM.out, (by repeat (first | (with_reducible assumption) | (with_reducible exact Below.refl _ _) | (with_reducible refine Bel.alloc ?_ _) | (with_reducible refine Below.drew ?_) | (with_reducible refine Bel.drewN ?_ _) | (with_reducible refine Bel.setCell ?_ (by (try simp) <;> omega) _) | (with_reducible refine Bel.trans ?_ (by assumption))))⟩
      case measure => simp [intOf]; omega
    · obtain rfl : j = 0 := by omega
      go_wp2
      go_ret
      exact ⟨ret_str (by rw [mtext_pos (by omega) HM.out.symm]; rw [show (0 : Int).toNat = 0 from rfl, mrest_0]), hbel⟩
theorem markText_any (k : Int) (w : World) (h0 : 0 ≤ k) (h1 : k ≤ 1000000000) :
    Calls Try.prog 30 #[.int .i64 k] w fun e w' => (∃ s, e = .returned (.string s)) ∧ Below w.heap.size w w' :=
  (markText_is k w h0 h1).mono fun _ _ ⟨he, hb⟩ => ⟨⟨_, he⟩, hb⟩
theorem grown_of_below {w w' : World} (h : Below w.heap.size w w') (row : Option Nat) : w.grownBy w' row := ⟨h.os, h.tape, h.output, h.size, fun k hk _ => h.block k hk⟩
end Go.Proofs.Ytfbnckgfgaddkaa
