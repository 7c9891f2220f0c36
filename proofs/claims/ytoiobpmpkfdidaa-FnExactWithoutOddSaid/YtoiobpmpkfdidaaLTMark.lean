/- markText of the laws package: it returns a text and keeps what is below. -/
import Derived.Test.YtoiobpmpkfdidaaChecked
import Derived.Test.YtoiobpmpkfdidaaBase
import Derived.Laws.IdiomStrings
namespace Go.Proofs.Ytoiobpmpkfdidaa
set_option linter.unusedSimpArgs false
set_option linter.unusedVariables false
open Go.RowKit
set_option maxHeartbeats 400000
set_option maxRecDepth 100000
/-- the decimal digits of j ahead of t -/
def mrest (j : Nat) (t : ByteArray) : ByteArray := if j = 0 then t else mrest (j / 10) ((⟨#[UInt8.ofNat (48 + j % 10)]⟩ : ByteArray) ++ t)
termination_by j
decreasing_by omega
theorem mrest_0 (t : ByteArray) : mrest 0 t = t := by rw [mrest]; rfl
theorem mrest_step {j : Int} (h : 0 < j) (t : ByteArray) : mrest (j / 10).toNat ((⟨#[UInt8.ofNat (48 + j % 10).toNat]⟩ : ByteArray) ++ t) = mrest j.toNat t := by
  conv => rhs; rw [mrest]
  rw [if_neg (by omega), show (48 + j % 10).toNat = 48 + j.toNat % 10 by omega, show (j / 10).toNat = j.toNat / 10 by omega]
/-- the mark of a number as text -/
def mtext (k : Int) : ByteArray := if k ≤ 0 then ⟨#[109, 48]⟩ else (⟨#[109]⟩ : ByteArray) ++ mrest k.toNat ⟨#[]⟩
theorem mtext_0 {k : Int} (h : k ≤ 0) : mtext k = ⟨#[109, 48]⟩ := if_pos h
theorem mtext_pos {k : Int} {t : ByteArray} (h : ¬ k ≤ 0) (ht : mrest k.toNat ⟨#[]⟩ = t) : mtext k = (⟨#[109]⟩ : ByteArray) ++ t := by rw [mtext, if_neg h, ht]
theorem ret_str {a b : ByteArray} (h : a = b) : Ending.returned (.string a) = .returned (.string b) := by rw [h]
theorem grown_of_below {w w' : World} (h : Below w.heap.size w w') (row : Option Nat) : w.grownBy w' row := ⟨h.os, h.tape, h.output, h.size, fun k hk _ => h.block k hk⟩
end Go.Proofs.Ytoiobpmpkfdidaa
