/- Chapter 24: a group is divided: plain part, the shares. -/
import Derived.Test.YtfbnckgfgaddkaaL24
import Derived.Test.YtfbnckgfgaddkaaApp
import Derived.Test.YtfbnckgfgaddkaaThree
import Derived.Deep.CutRange
import Derived.Laws.IdiomStrings
namespace Go.Proofs.Ytfbnckgfgaddkaa
set_option linter.unusedSimpArgs false
set_option linter.unusedVariables false
open Go.RowKit
set_option maxHeartbeats 800000
set_option maxRecDepth 100000
def shr (n k m : Int) : Int := (n * (k + 1)).tdiv m - (n * k).tdiv m
def letterS (k : Nat) : ByteArray := ⟨#[UInt8.ofNat (97 + k)]⟩
theorem letterS_size (k : Nat) : (letterS k).size = 1 := rfl
def partG (x : SGroup) (m : Int) (k : Nat) : SGroup := ⟨x.Id ++ letterS k, shr x.People k m, shr x.Guides k m, shr x.Beacons k m, shr x.Shovels k m, shr x.Probes k m, x.Skill⟩
theorem prod120 {n k : Int} (h0 : 0 ≤ n) (h1 : n ≤ 30) (h2 : 0 ≤ k) (h3 : k ≤ 4) : 0 ≤ n * k ∧ n * k ≤ 120 :=
  ⟨Int.mul_nonneg h0 h2, Int.le_trans (Int.mul_le_mul_of_nonneg_right h1 h2) (by omega)⟩
theorem quo_bd {a m : Int} (h0 : 0 ≤ a) (h1 : a ≤ 120) (hm : 2 ≤ m) : 0 ≤ a.tdiv m ∧ a.tdiv m ≤ 120 := by
  rw [Int.tdiv_eq_ediv_of_nonneg h0]
  exact ⟨Int.ediv_nonneg h0 (by omega), Int.le_trans (Int.ediv_le_self m h0) h1⟩
theorem shr_bd {n k m : Int} (h0 : 0 ≤ n) (h1 : n ≤ 30) (h2 : 0 ≤ k) (h3 : k ≤ 3) (hm : 2 ≤ m) : -120 ≤ shr n k m ∧ shr n k m ≤ 120 := by
  have a := prod120 h0 h1 h2 (by omega)
  have b := prod120 (k := k + 1) h0 h1 (by omega) (by omega)
  have c := quo_bd a.1 a.2 hm
  have d := quo_bd b.1 b.2 hm
  unfold shr
  omega
theorem share_any (n m : Int) (k : Nat) (g1 g2 : Nat) (w : World) (c1 : w.cell? ⟨g1, 0, none⟩ = some (.int .i64 k)) (c2 : w.cell? ⟨g2, 0, none⟩ = some (.int .i64 m)) (h0 : 0 ≤ n) (h1 : n ≤ 30) (hk : k ≤ 3) (hm : 2 ≤ m) (hm4 : m ≤ 4) :
    Calls Try.prog 28 #[.int .i64 n, .pointer (some ⟨g1, 0, none⟩), .pointer (some ⟨g2, 0, none⟩)] w fun e w' => e = .returned (.int .i64 (shr n k m)) ∧ ∃ j, w' = w.drewN j := by
  have hz : (m == 0) = false := by simp; omega
  have hz1 : m ≠ 0 := by omega
  have hz2 : m ≠ -1 := by omega
  have a := prod120 (k := (k : Int)) h0 h1 (by omega) (by omega)
  have b := prod120 (k := (k : Int) + 1) h0 h1 (by omega) (by omega)
  have c := quo_bd a.1 a.2 hm
  have d := quo_bd b.1 b.2 hm
  go_enter Try.func28, Try.ntmps28
  go_wp2_with fail
  go_quiet (fail)
  go_wp2
  go_ret
  exact ⟨ret_int rfl, ⟨_, rfl⟩⟩
theorem l24Share_any (n m : Int) (k : Nat) (w : World) (h0 : 0 ≤ n) (h1 : n ≤ 30) (hk : k ≤ 3) (hm : 2 ≤ m) (hm4 : m ≤ 4) :
    Calls Try.prog 26 #[.int .i64 n, .int .i64 k, .int .i64 m] w fun e w' => e = .returned (.int .i64 (shr n k m)) ∧ ∃ j, w' = w.drewN j := by
  have hz : (m == 0) = false := by simp; omega
  have hz1 : m ≠ 0 := by omega
  have hz2 : m ≠ -1 := by omega
  have a := prod120 (k := (k : Int)) h0 h1 (by omega) (by omega)
  have b := prod120 (k := (k : Int) + 1) h0 h1 (by omega) (by omega)
  have c := quo_bd a.1 a.2 hm
  have d := quo_bd b.1 b.2 hm
  go_enter Try.func26, Try.ntmps26
  go_wp2_with fail
  go_quiet (fail)
  go_wp2
  go_ret
  exact ⟨ret_int rfl, ⟨_, rfl⟩⟩
end Go.Proofs.Ytfbnckgfgaddkaa
