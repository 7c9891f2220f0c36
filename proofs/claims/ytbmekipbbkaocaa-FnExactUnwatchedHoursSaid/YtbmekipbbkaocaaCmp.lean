/- cmp.Compare and cmp.Or of Go's library, over int64, string and int. -/
import Derived.Test.YtbmekipbbkaocaaCom
import Derived.Test.YtbmekipbbkaocaaLst
namespace Go.Proofs.Ytbmekipbbkaocaa
set_option linter.unusedSimpArgs false
set_option linter.unusedVariables false
open Go.RowKit
set_option maxHeartbeats 400000
set_option maxRecDepth 100000
def cmpI (a b : Int) : Int := if a < b then -1 else if b < a then 1 else 0
def cmpS (a b : ByteArray) : Int := if Op.bytesLess a.toList b.toList then -1 else if Op.bytesLess b.toList a.toList then 1 else 0
theorem cmpI_bd (a b : Int) : -1 ≤ cmpI a b ∧ cmpI a b ≤ 1 := by unfold cmpI; split <;> (try split) <;> omega
theorem cmpS_bd (a b : ByteArray) : -1 ≤ cmpS a b ∧ cmpS a b ≤ 1 := by unfold cmpS; split <;> (try split) <;> omega
def orI (a b : Int) : Int := if a = 0 then b else a
theorem bytes_no {a b : ByteArray} (h : (a.toList == b.toList) = false) (h2 : Op.bytesLess a.toList b.toList = false) : Op.bytesLess b.toList a.toList = true := by
  have t := bytes_tri a.toList b.toList
  rw [h, h2] at t
  simpa using t
theorem bytes_irr (x : List UInt8) : Op.bytesLess x x = false := by
  have t := bytes_tri x x
  simpa using t
theorem bl_lt {a b : ByteArray} (h : Op.bytesLess a.toList b.toList = true) : (a.toList == b.toList) = false := by
  cases e : (a.toList == b.toList)
  · rfl
  · rw [beq_iff_eq] at e; rw [e, bytes_irr] at h; exact absurd h (by simp)
theorem cmpS_lt0 (a b : ByteArray) : decide (cmpS a b < 0) = Op.bytesLess a.toList b.toList := by
  unfold cmpS; cases Op.bytesLess a.toList b.toList <;> simp; split <;> omega
theorem cmpS_0 {a b : ByteArray} (h : (a.toList == b.toList) = true) : cmpS a b = 0 := by
  rw [beq_iff_eq] at h; rw [cmpS, h, bytes_irr]; rfl
theorem cmpS_n0 {a b : ByteArray} (h : (a.toList == b.toList) = false) : cmpS a b ≠ 0 := by
  unfold cmpS; cases h2 : Op.bytesLess a.toList b.toList
  · rw [bytes_no h h2]; simp
  · simp
theorem compareI_any (a b : Int) (w : World) : Calls Try.prog 57 #[.int .i64 a, .int .i64 b] w fun e w' => e = .returned (.int .i64 (cmpI a b)) ∧ w = w' := by
  go_enter Try.func57, Try.ntmps57
  go_wp2
  all_goals
    go_ret
    exact ⟨ret_int (by simp [cmpI, *] <;> omega), rfl⟩
theorem cmpS_lt {a b : ByteArray} (h : Op.bytesLess a.toList b.toList = true) : (-1 : Int) = cmpS a b := by rw [cmpS, if_pos h]
theorem cmpS_gt {a b : ByteArray} (h : Op.bytesLess a.toList b.toList = false) (h2 : (!a.toList == b.toList) = true) : (1 : Int) = cmpS a b := by
  have h3 := bytes_no (by simpa using h2) h
  rw [cmpS, h, h3]; rfl
theorem cmpS_eq {a b : ByteArray} (h : Op.bytesLess a.toList b.toList = false) (h2 : (!a.toList == b.toList) = false) : (0 : Int) = cmpS a b := by
  have h3 : a.toList = b.toList := by simpa using h2
  rw [cmpS, h3, bytes_irr]; rfl
theorem compareS_any (a b : ByteArray) (w : World) : Calls Try.prog 56 #[.string a, .string b] w fun e w' => e = .returned (.int .i64 (cmpS a b)) ∧ w = w' := by
  go_enter Try.func56, Try.ntmps56
  go_wp2
  all_goals
    go_ret
    exact ⟨ret_int (by first | exact cmpS_lt (by assumption) | exact cmpS_gt (by assumption) (by assumption) | exact cmpS_eq (by assumption) (by assumption)), rfl⟩
theorem or2_any (a b : Int) (g c : Nat) (w : World) (h0 : w.cell? ⟨g, 0, none⟩ = some (.int .i64 a)) (h1 : w.cell? ⟨g, 1, none⟩ = some (.int .i64 b)) :
    Calls Try.prog 55 #[.slice (some ⟨g, 0, none⟩) 2 c] w fun e w' => e = .returned (.int .i64 (orI a b)) ∧ w = w' := by
  go_enter Try.func55, Try.ntmps55
  go_wp2_with fail
  go_loop [8] (fun i => ∃ k : Nat, k ≤ 2 ∧ i = .int .i64 k ∧ (0 < k → a = 0) ∧ (1 < k → b = 0)) (fun i => 2 - (intOf i).toNat)
  case atStart => exact ⟨0, by omega, rfl, by omega, by omega⟩
  case round =>
    obtain ⟨k, hk, rfl, ha, hb⟩ := hrel
    have HA := Lib.hid ha
    have HB := Lib.hid hb
    clear ha hb
    by_cases k0 : k = 0
    · subst k0
      go_wp2
      all_goals first
        | (go_ret
           exact ⟨ret_int (by simp [orI, (show a ≠ 0 by simpa using (show (a != 0) = true by assumption))]), rfl⟩)
        | (go_round
           case rel => exact ⟨1, by omega, by go_num, fun _ => (show a = 0 by simpa using (show (a != 0) = false by assumption)), by omega⟩
           case measure => simp [intOf])
    · by_cases k1 : k = 1
      · subst k1
        go_wp2
        all_goals first
          | (go_ret
             exact ⟨ret_int (by simp [orI, HA.out (by omega)]), rfl⟩)
          | (go_round
             case rel => exact ⟨2, by omega, by go_num, fun _ => HA.out (by omega), fun _ => (show b = 0 by simpa using (show (b != 0) = false by assumption))⟩
             case measure => simp [intOf])
      · obtain rfl : k = 2 := by omega
        go_wp2
        go_ret
        exact ⟨ret_int (by simp [orI, HA.out (by omega), HB.out (by omega)]), rfl⟩
theorem or3_any (a b d : Int) (g c : Nat) (w : World) (h0 : w.cell? ⟨g, 0, none⟩ = some (.int .i64 a)) (h1 : w.cell? ⟨g, 1, none⟩ = some (.int .i64 b)) (h2 : w.cell? ⟨g, 2, none⟩ = some (.int .i64 d)) :
    Calls Try.prog 55 #[.slice (some ⟨g, 0, none⟩) 3 c] w fun e w' => e = .returned (.int .i64 (orI a (orI b d))) ∧ w = w' := by
  go_enter Try.func55, Try.ntmps55
  go_wp2_with fail
  go_loop [8] (fun i => ∃ k : Nat, k ≤ 3 ∧ i = .int .i64 k ∧ (0 < k → a = 0) ∧ (1 < k → b = 0) ∧ (2 < k → d = 0)) (fun i => 3 - (intOf i).toNat)
  case atStart => exact ⟨0, by omega, rfl, by omega, by omega, by omega⟩
  case round =>
    obtain ⟨k, hk, rfl, ha, hb, hd⟩ := hrel
    have HA := Lib.hid ha
    have HB := Lib.hid hb
    have HD := Lib.hid hd
    clear ha hb hd
    by_cases k0 : k = 0
    · subst k0
      go_wp2
      all_goals first
        | (go_ret
           exact ⟨ret_int (by simp [orI, (show a ≠ 0 by simpa using (show (a != 0) = true by assumption))]), rfl⟩)
        | (go_round
           case rel => exact ⟨1, by omega, by go_num, fun _ => (show a = 0 by simpa using (show (a != 0) = false by assumption)), by omega, by omega⟩
           case measure => simp [intOf])
    · by_cases k1 : k = 1
      · subst k1
        go_wp2
        all_goals first
          | (go_ret
             exact ⟨ret_int (by simp [orI, HA.out (by omega), (show b ≠ 0 by simpa using (show (b != 0) = true by assumption))]), rfl⟩)
          | (go_round
             case rel => exact ⟨2, by omega, by go_num, fun _ => HA.out (by omega), fun _ => (show b = 0 by simpa using (show (b != 0) = false by assumption)), by omega⟩
             case measure => simp [intOf])
      · by_cases k2 : k = 2
        · subst k2
          go_wp2
          all_goals first
            | (go_ret
               exact ⟨ret_int (by simp [orI, HA.out (by omega), HB.out (by omega)]), rfl⟩)
            | (go_round
               case rel => exact ⟨3, by omega, by go_num, fun _ => HA.out (by omega), fun _ => HB.out (by omega), fun _ => (show d = 0 by simpa using (show (d != 0) = false by assumption))⟩
               case measure => simp [intOf])
        · obtain rfl : k = 3 := by omega
          go_wp2
          go_ret
          exact ⟨ret_int (by simp [orI, HA.out (by omega), HB.out (by omega), HD.out (by omega)]), rfl⟩
end Go.Proofs.Ytbmekipbbkaocaa
