/- cmp.Compare and cmp.Or of Go's library, over int64, string and int. -/
import Derived.Test.YtcjalooaikfkbaaCom
import Derived.Test.YtcjalooaikfkbaaLst
namespace Go.Proofs.Ytcjalooaikfkbaa
set_option linter.unusedSimpArgs false
set_option linter.unusedVariables false
open Go.RowKit
set_option maxHeartbeats 400000
set_option maxRecDepth 100000
def cmpI (a b : Int) : Int := if a < b then -1 else if b < a then 1 else 0
def cmpS (a b : ByteArray) : Int := if Op.bytesLess a.toList b.toList then -1 else if Op.bytesLess b.toList a.toList then 1 else 0
theorem cmpI_bd (a b : Int) : -1 ≤ cmpI a b ∧ cmpI a b ≤ 1 := by unfold cmpI; split <;> (try split) <;> omega
theorem cmpS_bd (a b : ByteArray) : -1 ≤ cmpS a b ∧ cmpS a b ≤ 1 := by unfold cmpS; split <;> (try split) <;> omega
def orI (a b : Int) : Int := if a = 0 then b else a
theorem bytes_no {a b : ByteArray} (h : (a.toList == b.toList) = false) (h2 : Op.bytesLess a.toList b.toList = false) : Op.bytesLess b.toList a.toList = true := by
  have t := bytes_tri a.toList b.toList
  rw [h, h2] at t
  simpa using t
theorem bytes_irr (x : List UInt8) : Op.bytesLess x x = false := by
  have t := bytes_tri x x
  simpa using t
theorem bl_lt {a b : ByteArray} (h : Op.bytesLess a.toList b.toList = true) : (a.toList == b.toList) = false := by
  cases e : (a.toList == b.toList)
  · rfl
  · rw [beq_iff_eq] at e; rw [e, bytes_irr] at h; exact absurd h (by simp)
theorem cmpS_lt0 (a b : ByteArray) : decide (cmpS a b < 0) = Op.bytesLess a.toList b.toList := by
  unfold cmpS; cases Op.bytesLess a.toList b.toList <;> simp; split <;> omega
theorem cmpS_0 {a b : ByteArray} (h : (a.toList == b.toList) = true) : cmpS a b = 0 := by
  rw [beq_iff_eq] at h; rw [cmpS, h, bytes_irr]; rfl
theorem cmpS_n0 {a b : ByteArray} (h : (a.toList == b.toList) = false) : cmpS a b ≠ 0 := by
  unfold cmpS; cases h2 : Op.bytesLess a.toList b.toList
  · rw [bytes_no h h2]; simp
  · simp
theorem compareI_any (a b : Int) (w : World) : Calls Try.prog 100 #[.int .i64 a, .int .i64 b] w fun e w' => e = .returned (.int .i64 (cmpI a b)) ∧ w = w' := by
  go_enter Try.func100, Try.ntmps100
  go_wp2
  all_goals
    go_ret
    exact ⟨ret_int (by simp [cmpI, *] <;> omega), rfl⟩
end Go.Proofs.Ytcjalooaikfkbaa
