/- Chapter 10: the stands that protect enough. -/
import Derived.Test.YtamolhhccfnlfaaL10c
namespace Go.Proofs.Ytamolhhccfnlfaa
open Go.RowKit
set_option maxHeartbeats 1000000
set_option maxRecDepth 100000
-- 1 fn, 2 name, 3 valid call, 4 range failing tail, 5 range passing, 6 slots, 7 row var, 8 start row, 9 the call in the round
theorem ProtectedStands_any (xs : List SStand) (b c : Nat) (snow least : Int) (w : World) (A : Arr SStand.cells 5 w b xs) (hn : xs.length ≤ 1048576) (hs : ∀ i (h : i < xs.length), xs[i].Id.size ≤ 9223372036854775807) :
    Calls Try.prog 59 #[.slice (some ⟨b, 0, none⟩) xs.length c, .int .i64 snow, .int .i64 least] w fun e w' =>
      (∃ v, e = .returned (.tuple #[v, .int .i64 (psRes xs snow least).2]) ∧ Row intc 1 2 w' w.heap.size v (psRes xs snow least).1) ∧ Below w.heap.size w w' := by
  have HA := Lib.hid A
  have HI := Lib.hid hs
  clear A hs
  cases hv : vlStand xs
  · rw [psRes_1 hv]
    have HV := Lib.hid hv
    clear hv
    go_enter Try.func59, Try.ntmps59
    go_wp2_with (go_at_call 103; refine (Calls.boolIs HV.out (ValidStands_any xs b c _ HA.out hn HI.out)).mono ?_; rintro e w1 ⟨rfl, hb1⟩)
    go_ret2
    exact ⟨⟨_, rfl, Row.nil⟩, hb1⟩
  have HV := Lib.hid hv
  clear hv
  cases hy : (inr 0 2000 snow && inr 0 1000 least)
  · rw [psRes_2 HV.out hy]
    have HY := Lib.hid hy
    clear hy
    go_enter Try.func59, Try.ntmps59
    go_wp2_with (go_at_call 103; refine (Calls.boolIs HV.out (ValidStands_any xs b c _ HA.out hn HI.out)).mono ?_; rintro e w1 ⟨rfl, hb1⟩)
    refine (Calls.boolIs HY.out (protectOk_any _ _ _)).mono ?_; rintro e w' ⟨rfl, rfl⟩; go_wp2; go_ret2; exact ⟨⟨_, rfl, Row.nil⟩, hb1⟩
  rw [psRes_0 HV.out hy]
  obtain ⟨hy0, hy1⟩ : inr 0 2000 snow = true ∧ inr 0 1000 least = true := by simpa using hy
  obtain ⟨hs0, hs1⟩ := inr_bd hy0
  have HY := Lib.hid hy
  have HY0 := Lib.hid hy0
  have HY1 := Lib.hid hy1
  have hbd := vlS_bd HV.out
  have HB := Lib.hid hbd
  clear hy hy0 hy1 hbd
  go_enter Try.func59, Try.ntmps59
  go_wp2_with (go_at_call 103; refine (Calls.boolIs HV.out (ValidStands_any xs b c _ HA.out hn HI.out)).mono ?_; rintro e w1 ⟨rfl, hb1⟩)
  refine (Calls.boolIs HY.out (protectOk_any _ _ _)).mono ?_; rintro e w' ⟨rfl, rfl⟩; go_wp2_with fail
  go_loopw [8, 22] (fun v i wr => ∃ k : Nat, k ≤ xs.length ∧ i = .int .i64 k ∧ Row intc 1 2 wr w.heap.size v (psTo xs snow least k) ∧ Below w.heap.size w wr) (fun _ i wr => xs.length - (intOf i).toNat)
  case atStart => exact ⟨0, by omega, rfl, Row.nil, hb1⟩
  case round =>
    obtain ⟨k, hk, rfl, hrow, hbel⟩ := hrel
    have HR := Lib.hid hrow
    clear hrow
    by_cases hlt : k < xs.length
    · obtain ⟨e0, e1, e2, e3, e4⟩ := SStand.elem (HA.out.below hbel) hlt
      obtain ⟨p, hp⟩ : ∃ p, prot xs[k] snow = p := ⟨_, rfl⟩
      have HP := Lib.hid hp
      have hle := psTo_len xs snow least k
      clear hp
      go_wp2_with fail
      refine calls_box_out ?_
      intro W hbw BX
      clear BX
      refine (Calls.intIs HP.out (protection_any xs[k] snow W (HB.out k hlt) (by omega) (by omega))).mono ?_
      rintro e w2 ⟨rfl, hb2⟩
      have hrow := (HR.out.below hbw).below hb2
      have hbel := Bel.trans (Bel.trans hbel hbw) hb2
      clear e0 e1 e2 e3 e4
      have HR := Lib.hid hrow
      have hsz := hbel.size
      clear hrow
      by_cases hpq : least ≤ p
      · go_wp2_with (at_builtin; refine wpList_pushI rfl _ _ 24 rfl w.heap.size 2 Try.underlying24 (by kernel_rfl) u8 (psTo xs snow least k) (k : Int) rfl HR.out 1 rfl (by omega) hsz ?_; intro v' w3 hr3 hg3 hb4)
        go_roundw
        case rel => exact ⟨k + 1, by omega, by go_num, by rw [psTo_yes hlt (by have := HP.out; omega)]; exact hr3, hbel.trans hb4⟩
        case measure => simp [intOf]; omega
      · go_wp2
        go_roundw
        case rel => exact ⟨k + 1, by omega, by go_num, by rw [psTo_no hlt (by have := HP.out; omega)]; exact HR.out, hbel⟩
        case measure => simp [intOf]; omega
    · obtain rfl : k = xs.length := by omega
      go_wp2
      go_ret2
      exact ⟨⟨_, rfl, HR.out⟩, hbel⟩
-- 1 fn, 2 name, 3 valid call, 4 range failing tail, 5 range passing, 6 slots, 7 row var, 8 start row, 9 the call in the round
theorem sProtectedStands_any (xs : List SStand) (b c : Nat) (snow least : Int) (w : World) (A : Arr SStand.cells 5 w b xs) (hn : xs.length ≤ 1048576) (hs : ∀ i (h : i < xs.length), xs[i].Id.size ≤ 9223372036854775807) :
    Calls Try.prog 58 #[.slice (some ⟨b, 0, none⟩) xs.length c, .int .i64 snow, .int .i64 least] w fun e w' =>
      (∃ v, e = .returned (.tuple #[v, .int .i64 (psRes xs snow least).2]) ∧ Row intc 1 2 w' w.heap.size v (psRes xs snow least).1) ∧ Below w.heap.size w w' := by
  have HA := Lib.hid A
  have HI := Lib.hid hs
  clear A hs
  cases hv : vlStand xs
  · rw [psRes_1 hv]
    have HV := Lib.hid hv
    clear hv
    go_enter Try.func58, Try.ntmps58
    go_wp2_with (go_at_call 102; refine (Calls.boolIs HV.out (l10Ok_any xs b c _ HA.out hn HI.out)).mono ?_; rintro e w1 ⟨rfl, hb1⟩)
    go_ret2
    exact ⟨⟨_, rfl, Row.nil⟩, hb1⟩
  have HV := Lib.hid hv
  clear hv
  cases hy : (inr 0 2000 snow && inr 0 1000 least)
  · rw [psRes_2 HV.out hy]
    have HY := Lib.hid hy
    clear hy
    go_enter Try.func58, Try.ntmps58
    go_wp2_with (go_at_call 102; refine (Calls.boolIs HV.out (l10Ok_any xs b c _ HA.out hn HI.out)).mono ?_; rintro e w1 ⟨rfl, hb1⟩)
    cases hz : inr 0 2000 snow
    · have HZ := Lib.hid hz
      clear hz
      refine (Calls.boolIs HZ.out (l10Snow_any _ _)).mono ?_
      rintro e w' ⟨rfl, rfl⟩
      go_wp2
      go_ret2
      exact ⟨⟨_, rfl, Row.nil⟩, hb1⟩
    · have hl : inr 0 1000 least = false := by (have := HY.out; rw [hz] at this; simpa using this)
      have HZ := Lib.hid hz
      have HL := Lib.hid hl
      clear hz hl
      refine (Calls.boolIs HZ.out (l10Snow_any _ _)).mono ?_
      rintro e w' ⟨rfl, rfl⟩
      go_wp2_with fail
      refine (Calls.boolIs HL.out (l10Least_any _ _)).mono ?_
      rintro e w' ⟨rfl, rfl⟩
      go_wp2
      go_ret2
      exact ⟨⟨_, rfl, Row.nil⟩, hb1⟩
  rw [psRes_0 HV.out hy]
  obtain ⟨hy0, hy1⟩ : inr 0 2000 snow = true ∧ inr 0 1000 least = true := by simpa using hy
  obtain ⟨hs0, hs1⟩ := inr_bd hy0
  have HY := Lib.hid hy
  have HY0 := Lib.hid hy0
  have HY1 := Lib.hid hy1
  have hbd := vlS_bd HV.out
  have HB := Lib.hid hbd
  clear hy hy0 hy1 hbd
  go_enter Try.func58, Try.ntmps58
  go_wp2_with (go_at_call 102; refine (Calls.boolIs HV.out (l10Ok_any xs b c _ HA.out hn HI.out)).mono ?_; rintro e w1 ⟨rfl, hb1⟩)
  refine (Calls.boolIs HY0.out (l10Snow_any _ _)).mono ?_; rintro e w' ⟨rfl, rfl⟩; go_wp2_with fail; refine (Calls.boolIs HY1.out (l10Least_any _ _)).mono ?_; rintro e w' ⟨rfl, rfl⟩; go_wp2_with fail
  go_loopw [8, 9] (fun v i wr => ∃ k : Nat, k ≤ xs.length ∧ i = .int .i64 k ∧ Row intc 1 2 wr w.heap.size v (psTo xs snow least k) ∧ Below w.heap.size w wr) (fun _ i wr => xs.length - (intOf i).toNat)
  case atStart => exact ⟨0, by omega, rfl, Row.empty hb1.size, Bel.alloc hb1 _⟩
  case round =>
    obtain ⟨k, hk, rfl, hrow, hbel⟩ := hrel
    have HR := Lib.hid hrow
    clear hrow
    by_cases hlt : k < xs.length
    · obtain ⟨e0, e1, e2, e3, e4⟩ := SStand.elem (HA.out.below hbel) hlt
      obtain ⟨p, hp⟩ : ∃ p, prot xs[k] snow = p := ⟨_, rfl⟩
      have HP := Lib.hid hp
      have hle := psTo_len xs snow least k
      clear hp
      go_wp2_with fail
      refine (Calls.intIs HP.out (l10Protection_any xs[k] b (k * 5) snow _ e0 e1 e2 e3 e4 (HB.out k hlt) (by omega) (by omega))).mono ?_
      rintro e w2 ⟨rfl, hb2⟩
      have hrow := HR.out.below hb2
      have hbel := Bel.trans hbel hb2
      clear e0 e1 e2 e3 e4
      have HR := Lib.hid hrow
      have hsz := hbel.size
      clear hrow
      by_cases hpq : least ≤ p
      · go_wp2_with (at_builtin; refine wpList_pushI rfl _ _ 24 rfl w.heap.size 2 Try.underlying24 (by kernel_rfl) u8 (psTo xs snow least k) (k : Int) rfl HR.out 1 rfl (by omega) hsz ?_; intro v' w3 hr3 hg3 hb4)
        go_roundw
        case rel => exact ⟨k + 1, by omega, by go_num, by rw [psTo_yes hlt (by have := HP.out; omega)]; exact hr3, hbel.trans hb4⟩
        case measure => simp [intOf]; omega
      · go_wp2
        go_roundw
        case rel => exact ⟨k + 1, by omega, by go_num, by rw [psTo_no hlt (by have := HP.out; omega)]; exact HR.out, hbel⟩
        case measure => simp [intOf]; omega
    · obtain rfl : k = xs.length := by omega
      go_wp2
      go_ret2
      exact ⟨⟨_, rfl, HR.out⟩, hbel⟩
end Go.Proofs.Ytamolhhccfnlfaa
