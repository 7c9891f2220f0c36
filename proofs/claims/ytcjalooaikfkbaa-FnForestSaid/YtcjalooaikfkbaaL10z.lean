/- Chapter 10: ProtectionOf and MostSnow. -/
import Derived.Test.YtcjalooaikfkbaaL10w
import Derived.Test.YtcjalooaikfkbaaAllW
namespace Go.Proofs.Ytcjalooaikfkbaa
set_option linter.unusedSimpArgs false
set_option linter.unusedVariables false
open Go.RowKit
set_option maxHeartbeats 800000
theorem b10Long_any (A : Option Addr) (n c : Nat) (w : World) : Calls Try.prog 7 #[.slice A n c] w fun e w' => e = .returned (.bool (decide ((1048576 : Int) < (n : Int)))) ∧ w = w' := by
  go_enter Try.func7, Try.ntmps7
  go_wp2
  go_ret
  exact ⟨rfl, rfl⟩
theorem ProtectionOf_any (x : SStand) (s : Int) (w : World) (hs : x.Id.size ≤ 9223372036854775807) :
    Calls Try.prog 9 #[.agg #[.string x.Id, .int .i64 x.Trees, .int .i64 x.Height, .int .i64 x.Cover, .int .i64 x.Gap], .int .i64 s] w fun e w' => e = .returned (.tuple #[.int .i64 (protOf x s).1, .int .i64 (protOf x s).2]) ∧ Below w.heap.size w w' := by
  cases hv : okStand x
  · rw [protOf_1 hv]
    have HV := Lib.hid hv
    clear hv
    go_enter Try.func9, Try.ntmps9
    go_wp2_with (go_at_call 42; refine calls_box_out ?_; intro W hbw B1; refine (Calls.boolIs HV.out (validStand_any x _ hs)).mono ?_; rintro e w1 ⟨rfl, hb1⟩)
    go_ret2
    exact ⟨rfl, (by repeat (first | (with_reducible assumption) | (with_reducible exact Below.refl _ _) | (with_reducible refine Bel.alloc ?_ _) | (with_reducible refine Below.drew ?_) | (with_reducible refine Bel.drewN ?_ _) | (with_reducible refine Bel.setCell ?_ (by (try simp) <;> omega) _) | (with_reducible refine Bel.trans ?_ (by assumption))))⟩
  · cases hy : inr 0 2000 s
    · rw [protOf_2 hv hy]
      have HV := Lib.hid hv
      have HY := Lib.hid hy
      clear hv hy
      go_enter Try.func9, Try.ntmps9
      go_wp2_with (first | (go_at_call 42; refine calls_box_out ?_; intro W hbw B1; refine (Calls.boolIs HV.out (validStand_any x _ hs)).mono ?_; rintro e w1 ⟨rfl, hb1⟩) | (go_at_call 43; refine (Calls.boolIs HY.out (within_any _ _ _ _)).mono ?_; rintro e w' ⟨rfl, rfl⟩))
      go_ret2
      exact ⟨rfl, (by repeat (first | (with_reducible assumption) | (with_reducible exact Below.refl _ _) | (with_reducible refine Bel.alloc ?_ _) | (with_reducible refine Below.drew ?_) | (with_reducible refine Bel.drewN ?_ _) | (with_reducible refine Bel.setCell ?_ (by (try simp) <;> omega) _) | (with_reducible refine Bel.trans ?_ (by assumption))))⟩
    · rw [protOf_0 hv hy]
      have hbd : bdStand x := okStand_bd hv
      obtain ⟨hy0, hy1⟩ := inr_bd hy
      have HV := Lib.hid hv
      have HY := Lib.hid hy
      have HB := Lib.hid hbd
      clear hv hy hbd
      go_enter Try.func9, Try.ntmps9
      go_wp2_with fail
      refine calls_box_out ?_
      intro W hbw B1
      refine (Calls.boolIs HV.out (validStand_any x _ hs)).mono ?_
      rintro e w1 ⟨rfl, hb1⟩
      have B1 := B1.below hb1
      have c0 : w1.cell? ⟨w.heap.size, 0, none⟩ = some (.string x.Id) := B1.cell 0
      have c1 : w1.cell? ⟨w.heap.size, 1, none⟩ = some (.int .i64 x.Trees) := B1.cell 1
      have c2 : w1.cell? ⟨w.heap.size, 2, none⟩ = some (.int .i64 x.Height) := B1.cell 2
      have c3 : w1.cell? ⟨w.heap.size, 3, none⟩ = some (.int .i64 x.Cover) := B1.cell 3
      have c4 : w1.cell? ⟨w.heap.size, 4, none⟩ = some (.int .i64 x.Gap) := B1.cell 4
      clear B1
      go_wp2_with (first | (go_at_call 43; refine (Calls.boolIs HY.out (within_any _ _ _ _)).mono ?_; rintro e w' ⟨rfl, rfl⟩) | (go_at_call 44; refine (protection_any x s _ HB.out hy0 hy1).mono ?_; rintro e w2 ⟨rfl, hb2⟩))
      go_ret2
      exact ⟨rfl, (by repeat (first | (with_reducible assumption) | (with_reducible exact Below.refl _ _) | (with_reducible refine Bel.alloc ?_ _) | (with_reducible refine Below.drew ?_) | (with_reducible refine Bel.drewN ?_ _) | (with_reducible refine Bel.setCell ?_ (by (try simp) <;> omega) _) | (with_reducible refine Bel.trans ?_ (by assumption))))⟩
set_option maxRecDepth 100000 in
theorem MostSnow_any (x : SStand) (l : Int) (w : World) (hs : x.Id.size ≤ 9223372036854775807) :
    Calls Try.prog 12 #[.agg #[.string x.Id, .int .i64 x.Trees, .int .i64 x.Height, .int .i64 x.Cover, .int .i64 x.Gap], .int .i64 l] w fun e w' => e = .returned (.tuple #[.int .i64 (mostSnow x l).1, .int .i64 (mostSnow x l).2]) ∧ Below w.heap.size w w' := by
  cases hv : okStand x
  · rw [mostSnow_1 hv]
    have HV := Lib.hid hv
    clear hv
    go_enter Try.func12, Try.ntmps12
    go_wp2_with (go_at_call 42; refine calls_box_out ?_; intro W hbw B1; refine (Calls.boolIs HV.out (validStand_any x _ hs)).mono ?_; rintro e w1 ⟨rfl, hb1⟩)
    go_ret2
    exact ⟨rfl, (by repeat (first | (with_reducible assumption) | (with_reducible exact Below.refl _ _) | (with_reducible refine Bel.alloc ?_ _) | (with_reducible refine Below.drew ?_) | (with_reducible refine Bel.drewN ?_ _) | (with_reducible refine Bel.setCell ?_ (by (try simp) <;> omega) _) | (with_reducible refine Bel.trans ?_ (by assumption))))⟩
  · cases hy : inr 0 1000 l
    · rw [mostSnow_2 hv hy]
      have HV := Lib.hid hv
      have HY : Hid ((inr 0 2000 0 && inr 0 1000 l) = false) := Lib.hid (by rw [hy, Bool.and_false])
      clear hv hy
      go_enter Try.func12, Try.ntmps12
      go_wp2_with (first | (go_at_call 42; refine calls_box_out ?_; intro W hbw B1; refine (Calls.boolIs HV.out (validStand_any x _ hs)).mono ?_; rintro e w1 ⟨rfl, hb1⟩) | (go_at_call 47; refine (Calls.boolIs HY.out (protectOk_any _ _ _)).mono ?_; rintro e w' ⟨rfl, rfl⟩))
      go_ret2
      exact ⟨rfl, (by repeat (first | (with_reducible assumption) | (with_reducible exact Below.refl _ _) | (with_reducible refine Bel.alloc ?_ _) | (with_reducible refine Below.drew ?_) | (with_reducible refine Bel.drewN ?_ _) | (with_reducible refine Bel.setCell ?_ (by (try simp) <;> omega) _) | (with_reducible refine Bel.trans ?_ (by assumption))))⟩
    · have hbd : bdStand x := okStand_bd hv
      have HV := Lib.hid hv
      have HL := Lib.hid hy
      have HY : Hid ((inr 0 2000 0 && inr 0 1000 l) = true) := Lib.hid (by rw [hy]; rfl)
      have HB := Lib.hid hbd
      clear hv hy hbd
      go_enter Try.func12, Try.ntmps12
      go_wp2_with fail
      refine calls_box_out ?_
      intro W hbw B1
      refine (Calls.boolIs HV.out (validStand_any x _ hs)).mono ?_
      rintro e w1 ⟨rfl, hb1⟩
      have B1 := B1.below hb1
      have hbw := Bel.trans hbw hb1
      have HB1 := Lib.hid B1
      clear B1 hb1
      go_wp2_with (go_at_call 47; refine (Calls.boolIs HY.out (protectOk_any _ _ _)).mono ?_; rintro e w' ⟨rfl, rfl⟩)
      go_loopw [6] (fun i wr => ∃ k : Nat, k ≤ 2001 ∧ i = .int .i64 (2000 - (k : Int)) ∧ Box 25 wr w.heap.size #[.string x.Id, .int .i64 x.Trees, .int .i64 x.Height, .int .i64 x.Cover, .int .i64 x.Gap] ∧ Below w.heap.size w wr ∧ Hid (∀ j : Nat, j < k → decide (l ≤ prot x (2000 - (j : Int))) = false)) (fun i wr => (intOf i + 1).toNat)
      case atStart => exact ⟨0, by omega, rfl, HB1.out, hbw, Lib.hid fun j h => absurd h (Nat.not_lt_zero j)⟩
      case round =>
        clear HB1 hbw
        obtain ⟨k, hk, rfl, B1, hbel, HP⟩ := hrel
        by_cases hlt : k < 2001
        · have hge : (0 : Int) ≤ 2000 - (k : Int) := by omega
          have c0 : wr.cell? ⟨w.heap.size, 0, none⟩ = some (.string x.Id) := B1.cell 0
          have c1 : wr.cell? ⟨w.heap.size, 1, none⟩ = some (.int .i64 x.Trees) := B1.cell 1
          have c2 : wr.cell? ⟨w.heap.size, 2, none⟩ = some (.int .i64 x.Height) := B1.cell 2
          have c3 : wr.cell? ⟨w.heap.size, 3, none⟩ = some (.int .i64 x.Cover) := B1.cell 3
          have c4 : wr.cell? ⟨w.heap.size, 4, none⟩ = some (.int .i64 x.Gap) := B1.cell 4
          have HB1 := Lib.hid B1
          clear B1
          by_cases hp : l ≤ prot x (2000 - (k : Int))
          · go_wp2_with (go_at_call 44; refine (protection_any x _ _ HB.out (by omega) (by omega)).mono ?_; rintro e w2 ⟨rfl, hb2⟩)
            go_ret2
            exact ⟨by rw [mostSnow_0 HV.out HL.out hlt HP.out (by simpa using hp)]; rfl, Bel.trans hbel hb2⟩
          · go_wp2_with (go_at_call 44; refine (protection_any x _ _ HB.out (by omega) (by omega)).mono ?_; rintro e w2 ⟨rfl, hb2⟩)
            go_roundw
            case rel => exact ⟨k + 1, by omega, by go_num, HB1.out.below hb2, Bel.trans hbel hb2, Lib.hid (upto_snoc HP.out (by simpa using hp))⟩
            case measure => simp [intOf]; omega
        · obtain rfl : k = 2001 := by omega
          go_wp2
          go_ret2
          exact ⟨by rw [mostSnow_3 HV.out HL.out HP.out]; rfl, hbel⟩
end Go.Proofs.Ytcjalooaikfkbaa
