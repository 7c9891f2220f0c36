/- Chapter 8: the class of a test: the walks. -/
import Derived.Test.YtlicpgmcnebpmaaL08
namespace Go.Proofs.Ytlicpgmcnebpmaa
set_option linter.unusedSimpArgs false
set_option linter.unusedVariables false
open Go.RowKit
set_option maxHeartbeats 400000
set_option maxRecDepth 100000
theorem lim_tab (kind : Int) (h : 1 ≤ kind ∧ kind ≤ 3) : ∃ a b c : Int, lim kind 0 = a ∧ lim kind 1 = b ∧ lim kind 2 = c ∧ ((kind = 1 ∧ a = 10 ∧ b = 20 ∧ c = 30) ∨ (kind = 2 ∧ a = 13 ∧ b = 22 ∧ c = 30) ∨ (kind = 3 ∧ a = 2 ∧ b = 4 ∧ c = 6)) := by
  rcases (show kind = 1 ∨ kind = 2 ∨ kind = 3 by omega) with rfl | rfl | rfl
  · exact ⟨10, 20, 30, rfl, rfl, rfl, Or.inl ⟨rfl, rfl, rfl, rfl⟩⟩
  · exact ⟨13, 22, 30, rfl, rfl, rfl, Or.inr (Or.inl ⟨rfl, rfl, rfl, rfl⟩)⟩
  · exact ⟨2, 4, 6, rfl, rfl, rfl, Or.inr (Or.inr ⟨rfl, rfl, rfl, rfl⟩)⟩
theorem idxK1 (w : World) : (Instr.index 63 (.agg #[.int .i64 0, .int .i64 0, .int .i64 0, .int .i64 10, .int .i64 20, .int .i64 30, .int .i64 13, .int .i64 22, .int .i64 30, .int .i64 2, .int .i64 4, .int .i64 6]) (.int .i64 1)).run Try.prog w = .ok (.agg #[.int .i64 10, .int .i64 20, .int .i64 30]) w := by kernel_rfl
theorem idxK2 (w : World) : (Instr.index 63 (.agg #[.int .i64 0, .int .i64 0, .int .i64 0, .int .i64 10, .int .i64 20, .int .i64 30, .int .i64 13, .int .i64 22, .int .i64 30, .int .i64 2, .int .i64 4, .int .i64 6]) (.int .i64 2)).run Try.prog w = .ok (.agg #[.int .i64 13, .int .i64 22, .int .i64 30]) w := by kernel_rfl
theorem idxK3 (w : World) : (Instr.index 63 (.agg #[.int .i64 0, .int .i64 0, .int .i64 0, .int .i64 10, .int .i64 20, .int .i64 30, .int .i64 13, .int .i64 22, .int .i64 30, .int .i64 2, .int .i64 4, .int .i64 6]) (.int .i64 3)).run Try.prog w = .ok (.agg #[.int .i64 2, .int .i64 4, .int .i64 6]) w := by kernel_rfl
theorem idxL1_0 (w : World) : (Instr.index 62 (.agg #[.int .i64 10, .int .i64 20, .int .i64 30]) (.int .i64 0)).run Try.prog w = .ok (.int .i64 10) w := by kernel_rfl
theorem idxL1_1 (w : World) : (Instr.index 62 (.agg #[.int .i64 10, .int .i64 20, .int .i64 30]) (.int .i64 1)).run Try.prog w = .ok (.int .i64 20) w := by kernel_rfl
theorem idxL1_2 (w : World) : (Instr.index 62 (.agg #[.int .i64 10, .int .i64 20, .int .i64 30]) (.int .i64 2)).run Try.prog w = .ok (.int .i64 30) w := by kernel_rfl
theorem idxL2_0 (w : World) : (Instr.index 62 (.agg #[.int .i64 13, .int .i64 22, .int .i64 30]) (.int .i64 0)).run Try.prog w = .ok (.int .i64 13) w := by kernel_rfl
theorem idxL2_1 (w : World) : (Instr.index 62 (.agg #[.int .i64 13, .int .i64 22, .int .i64 30]) (.int .i64 1)).run Try.prog w = .ok (.int .i64 22) w := by kernel_rfl
theorem idxL2_2 (w : World) : (Instr.index 62 (.agg #[.int .i64 13, .int .i64 22, .int .i64 30]) (.int .i64 2)).run Try.prog w = .ok (.int .i64 30) w := by kernel_rfl
theorem idxL3_0 (w : World) : (Instr.index 62 (.agg #[.int .i64 2, .int .i64 4, .int .i64 6]) (.int .i64 0)).run Try.prog w = .ok (.int .i64 2) w := by kernel_rfl
theorem idxL3_1 (w : World) : (Instr.index 62 (.agg #[.int .i64 2, .int .i64 4, .int .i64 6]) (.int .i64 1)).run Try.prog w = .ok (.int .i64 4) w := by kernel_rfl
theorem idxL3_2 (w : World) : (Instr.index 62 (.agg #[.int .i64 2, .int .i64 4, .int .i64 6]) (.int .i64 2)).run Try.prog w = .ok (.int .i64 6) w := by kernel_rfl
theorem ret_add {a b : Int} (h : b = a + 1) : Value.int .i64 (a + 1) = .int .i64 b := by rw [h]
theorem ret_eqv {a b : Int} (h : b = a) : Value.int .i64 a = .int .i64 b := by rw [h]
theorem class_any (x : STest) (w : World) (hok : okTest x = true) : Calls Try.prog 34 #[.agg #[.int .i64 x.Kind, .int .i64 x.Score, .int .i64 x.Quality, .int .i64 x.Depth, .int .i64 x.Hour]] w fun e w' => e = .returned (.int .i64 (cls x)) ∧ Below w.heap.size w w' := by
  have hb := okTest_bd hok
  clear hok
  obtain ⟨kind, score, quality, depth, hour⟩ := x
  dsimp only at hb ⊢
  go_enter Try.func34, Try.ntmps34
  rcases (show kind = 1 ∨ kind = 2 ∨ kind = 3 by omega) with rfl | rfl | rfl
  · go_wp2_with fail
    rw [idxK1]
    go_wp2_with fail
    go_loop [4, 15] (fun c i => ∃ k : Nat, k ≤ 3 ∧ i = .int .i64 k ∧ c = .int .i64 (baseC ⟨1, score, quality, depth, hour⟩ k)) (fun _ i => 3 - (intOf i).toNat)
    case atStart => exact ⟨0, by omega, rfl, rfl⟩
    case round =>
      obtain ⟨k, hk, rfl, rfl⟩ := hrel
      have hbc := baseC_bd ⟨1, score, quality, depth, hour⟩ k
      rcases (show k = 0 ∨ k = 1 ∨ k = 2 ∨ k = 3 by omega) with rfl | rfl | rfl | rfl
      · skip
        -- 1 place 2 limit 3 kind
        by_cases hq : (10 : Int) < score
        · go_wp2
          rw [idxL1_0]
          go_wp2
          go_round
          case rel => exact ⟨0 + 1, by omega, by go_num, ret_add (baseC_yes (x := ⟨1, score, quality, depth, hour⟩) (k := 0) (by simpa [lim] using hq))⟩
          case measure => simp [intOf]
        · go_wp2
          rw [idxL1_0]
          go_wp2
          go_round
          case rel => exact ⟨0 + 1, by omega, by go_num, ret_eqv (baseC_no (x := ⟨1, score, quality, depth, hour⟩) (k := 0) (by simpa [lim] using hq))⟩
          case measure => simp [intOf]
      · skip
        -- 1 place 2 limit 3 kind
        by_cases hq : (20 : Int) < score
        · go_wp2
          rw [idxL1_1]
          go_wp2
          go_round
          case rel => exact ⟨1 + 1, by omega, by go_num, ret_add (baseC_yes (x := ⟨1, score, quality, depth, hour⟩) (k := 1) (by simpa [lim] using hq))⟩
          case measure => simp [intOf]
        · go_wp2
          rw [idxL1_1]
          go_wp2
          go_round
          case rel => exact ⟨1 + 1, by omega, by go_num, ret_eqv (baseC_no (x := ⟨1, score, quality, depth, hour⟩) (k := 1) (by simpa [lim] using hq))⟩
          case measure => simp [intOf]
      · skip
        -- 1 place 2 limit 3 kind
        by_cases hq : (30 : Int) < score
        · go_wp2
          rw [idxL1_2]
          go_wp2
          go_round
          case rel => exact ⟨2 + 1, by omega, by go_num, ret_add (baseC_yes (x := ⟨1, score, quality, depth, hour⟩) (k := 2) (by simpa [lim] using hq))⟩
          case measure => simp [intOf]
        · go_wp2
          rw [idxL1_2]
          go_wp2
          go_round
          case rel => exact ⟨2 + 1, by omega, by go_num, ret_eqv (baseC_no (x := ⟨1, score, quality, depth, hour⟩) (k := 2) (by simpa [lim] using hq))⟩
          case measure => simp [intOf]
      · go_wp2
        all_goals
          go_ret
          exact ⟨ret_int (by simp only [cls]; omega), (by repeat (first | (with_reducible assumption) | (with_reducible exact Below.refl _ _) | (with_reducible refine Bel.alloc ?_ _) | (with_reducible refine Below.drew ?_) | (with_reducible refine Bel.drewN ?_ _) | (with_reducible refine Bel.setCell ?_ (by (try simp) <;> omega) _) | (with_reducible refine Bel.trans ?_ (by assumption))))⟩
  · go_wp2_with fail
    rw [idxK2]
    go_wp2_with fail
    go_loop [4, 15] (fun c i => ∃ k : Nat, k ≤ 3 ∧ i = .int .i64 k ∧ c = .int .i64 (baseC ⟨2, score, quality, depth, hour⟩ k)) (fun _ i => 3 - (intOf i).toNat)
    case atStart => exact ⟨0, by omega, rfl, rfl⟩
    case round =>
      obtain ⟨k, hk, rfl, rfl⟩ := hrel
      have hbc := baseC_bd ⟨2, score, quality, depth, hour⟩ k
      rcases (show k = 0 ∨ k = 1 ∨ k = 2 ∨ k = 3 by omega) with rfl | rfl | rfl | rfl
      · skip
        -- 1 place 2 limit 3 kind
        by_cases hq : (13 : Int) < score
        · go_wp2
          rw [idxL2_0]
          go_wp2
          go_round
          case rel => exact ⟨0 + 1, by omega, by go_num, ret_add (baseC_yes (x := ⟨2, score, quality, depth, hour⟩) (k := 0) (by simpa [lim] using hq))⟩
          case measure => simp [intOf]
        · go_wp2
          rw [idxL2_0]
          go_wp2
          go_round
          case rel => exact ⟨0 + 1, by omega, by go_num, ret_eqv (baseC_no (x := ⟨2, score, quality, depth, hour⟩) (k := 0) (by simpa [lim] using hq))⟩
          case measure => simp [intOf]
      · skip
        -- 1 place 2 limit 3 kind
        by_cases hq : (22 : Int) < score
        · go_wp2
          rw [idxL2_1]
          go_wp2
          go_round
          case rel => exact ⟨1 + 1, by omega, by go_num, ret_add (baseC_yes (x := ⟨2, score, quality, depth, hour⟩) (k := 1) (by simpa [lim] using hq))⟩
          case measure => simp [intOf]
        · go_wp2
          rw [idxL2_1]
          go_wp2
          go_round
          case rel => exact ⟨1 + 1, by omega, by go_num, ret_eqv (baseC_no (x := ⟨2, score, quality, depth, hour⟩) (k := 1) (by simpa [lim] using hq))⟩
          case measure => simp [intOf]
      · skip
        -- 1 place 2 limit 3 kind
        by_cases hq : (30 : Int) < score
        · go_wp2
          rw [idxL2_2]
          go_wp2
          go_round
          case rel => exact ⟨2 + 1, by omega, by go_num, ret_add (baseC_yes (x := ⟨2, score, quality, depth, hour⟩) (k := 2) (by simpa [lim] using hq))⟩
          case measure => simp [intOf]
        · go_wp2
          rw [idxL2_2]
          go_wp2
          go_round
          case rel => exact ⟨2 + 1, by omega, by go_num, ret_eqv (baseC_no (x := ⟨2, score, quality, depth, hour⟩) (k := 2) (by simpa [lim] using hq))⟩
          case measure => simp [intOf]
      · go_wp2
        all_goals
          go_ret
          exact ⟨ret_int (by simp only [cls]; omega), (by repeat (first | (with_reducible assumption) | (with_reducible exact Below.refl _ _) | (with_reducible refine Bel.alloc ?_ _) | (with_reducible refine Below.drew ?_) | (with_reducible refine Bel.drewN ?_ _) | (with_reducible refine Bel.setCell ?_ (by (try simp) <;> omega) _) | (with_reducible refine Bel.trans ?_ (by assumption))))⟩
  · go_wp2_with fail
    rw [idxK3]
    go_wp2_with fail
    go_loop [4, 15] (fun c i => ∃ k : Nat, k ≤ 3 ∧ i = .int .i64 k ∧ c = .int .i64 (baseC ⟨3, score, quality, depth, hour⟩ k)) (fun _ i => 3 - (intOf i).toNat)
    case atStart => exact ⟨0, by omega, rfl, rfl⟩
    case round =>
      obtain ⟨k, hk, rfl, rfl⟩ := hrel
      have hbc := baseC_bd ⟨3, score, quality, depth, hour⟩ k
      rcases (show k = 0 ∨ k = 1 ∨ k = 2 ∨ k = 3 by omega) with rfl | rfl | rfl | rfl
      · skip
        -- 1 place 2 limit 3 kind
        by_cases hq : (2 : Int) < score
        · go_wp2
          rw [idxL3_0]
          go_wp2
          go_round
          case rel => exact ⟨0 + 1, by omega, by go_num, ret_add (baseC_yes (x := ⟨3, score, quality, depth, hour⟩) (k := 0) (by simpa [lim] using hq))⟩
          case measure => simp [intOf]
        · go_wp2
          rw [idxL3_0]
          go_wp2
          go_round
          case rel => exact ⟨0 + 1, by omega, by go_num, ret_eqv (baseC_no (x := ⟨3, score, quality, depth, hour⟩) (k := 0) (by simpa [lim] using hq))⟩
          case measure => simp [intOf]
      · skip
        -- 1 place 2 limit 3 kind
        by_cases hq : (4 : Int) < score
        · go_wp2
          rw [idxL3_1]
          go_wp2
          go_round
          case rel => exact ⟨1 + 1, by omega, by go_num, ret_add (baseC_yes (x := ⟨3, score, quality, depth, hour⟩) (k := 1) (by simpa [lim] using hq))⟩
          case measure => simp [intOf]
        · go_wp2
          rw [idxL3_1]
          go_wp2
          go_round
          case rel => exact ⟨1 + 1, by omega, by go_num, ret_eqv (baseC_no (x := ⟨3, score, quality, depth, hour⟩) (k := 1) (by simpa [lim] using hq))⟩
          case measure => simp [intOf]
      · skip
        -- 1 place 2 limit 3 kind
        by_cases hq : (6 : Int) < score
        · go_wp2
          rw [idxL3_2]
          go_wp2
          go_round
          case rel => exact ⟨2 + 1, by omega, by go_num, ret_add (baseC_yes (x := ⟨3, score, quality, depth, hour⟩) (k := 2) (by simpa [lim] using hq))⟩
          case measure => simp [intOf]
        · go_wp2
          rw [idxL3_2]
          go_wp2
          go_round
          case rel => exact ⟨2 + 1, by omega, by go_num, ret_eqv (baseC_no (x := ⟨3, score, quality, depth, hour⟩) (k := 2) (by simpa [lim] using hq))⟩
          case measure => simp [intOf]
      · go_wp2
        all_goals
          go_ret
          exact ⟨ret_int (by simp only [cls]; omega), (by repeat (first | (with_reducible assumption) | (with_reducible exact Below.refl _ _) | (with_reducible refine Bel.alloc ?_ _) | (with_reducible refine Below.drew ?_) | (with_reducible refine Bel.drewN ?_ _) | (with_reducible refine Bel.setCell ?_ (by (try simp) <;> omega) _) | (with_reducible refine Bel.trans ?_ (by assumption))))⟩
theorem l08Class_any (x : STest) (b o : Nat) (w : World) (p0 : w.cell? ⟨b, o, none⟩ = some (.int .i64 x.Kind)) (p1 : w.cell? ⟨b, o + 1, none⟩ = some (.int .i64 x.Score)) (p2 : w.cell? ⟨b, o + 2, none⟩ = some (.int .i64 x.Quality)) (p3 : w.cell? ⟨b, o + 3, none⟩ = some (.int .i64 x.Depth)) (p4 : w.cell? ⟨b, o + 4, none⟩ = some (.int .i64 x.Hour)) (hok : okTest x = true) : Calls Try.prog 29 #[.pointer (some ⟨b, o, none⟩)] w fun e w' => e = .returned (.int .i64 (cls x)) ∧ Below w.heap.size w w' := by
  have hb := okTest_bd hok
  have hl := lt_of_cell p0
  clear hok
  obtain ⟨kind, score, quality, depth, hour⟩ := x
  dsimp only at hb p0 p1 p2 p3 p4 ⊢
  rcases (show kind = 1 ∨ kind = 2 ∨ kind = 3 by omega) with rfl | rfl | rfl
  · go_enter Try.func29, Try.ntmps29
    go_wp2_with fail
    refine wp_box_out ?_
    intro W hbw B
    -- 1 kind 2 3 4 limits 5 block 6 the box
    have hp1 := (hbw.cell (p := ⟨b, o + 1, none⟩) hl).trans p1
    have hp2 := (hbw.cell (p := ⟨b, o + 2, none⟩) hl).trans p2
    have hlw : b < W.heap.size := Nat.lt_of_lt_of_le hl hbw.size
    have hlg : w.heap.size < W.heap.size := B.lt
    have c0 : W.cell? ⟨w.heap.size, 0, none⟩ = some (.int .i64 10) := B.cell 0
    have c1 : W.cell? ⟨w.heap.size, 1, none⟩ = some (.int .i64 20) := B.cell 1
    have c2 : W.cell? ⟨w.heap.size, 2, none⟩ = some (.int .i64 30) := B.cell 2
    have q1 := Past.cell hp1 hlw
    have q2 := Past.cell hp2 hlw
    have d0 := Past.cell c0 hlg
    have d1 := Past.cell c1 hlg
    have d2 := Past.cell c2 hlg
    clear p0 p1 p2 p3 p4 hp1 hp2 c0 c1 c2
    go_loopw [4, 5] (fun c i wr => ∃ k : Nat, k ≤ 3 ∧ i = .int .i64 k ∧ c = .int .i64 (baseC ⟨1, score, quality, depth, hour⟩ k) ∧ Below W.heap.size W wr) (fun _ i wr => 3 - (intOf i).toNat)
    case atStart => exact ⟨0, by omega, rfl, rfl, Below.refl _ _⟩
    case round =>
      obtain ⟨k, hk, rfl, rfl, hbel⟩ := hrel
      have hbc := baseC_bd ⟨1, score, quality, depth, hour⟩ k
      have hs := hbel.size
      have q1 := Past.cell (q1 ⟨wr, hbel⟩) (Nat.lt_of_lt_of_le hlw hs)
      have r2 := q2 ⟨wr, hbel⟩
      have q2 := Past.cell (q2 ⟨wr, hbel⟩) (Nat.lt_of_lt_of_le hlw hs)
      have d0 := Past.cell (d0 ⟨wr, hbel⟩) (Nat.lt_of_lt_of_le hlg hs)
      have d1 := Past.cell (d1 ⟨wr, hbel⟩) (Nat.lt_of_lt_of_le hlg hs)
      have d2 := Past.cell (d2 ⟨wr, hbel⟩) (Nat.lt_of_lt_of_le hlg hs)
      dsimp only at r2
      rcases (show k = 0 ∨ k = 1 ∨ k = 2 ∨ k = 3 by omega) with rfl | rfl | rfl | rfl
      · skip
        -- 1 place 2 limit 3 kind
        by_cases hq : (10 : Int) < score
        · go_wp2_with fail
          refine wp_region_past (by kernel_rfl) (by kernel_rfl) ?_
          repeat (go_big_quiet_step (fail))
          refine wpQuiet_nil ?_
          intro W1 hw'
          obtain ⟨⟨W_, hb1⟩, hw''⟩ := hw'
          subst hw''
          go_wp2
          go_roundw
          case rel => exact ⟨0 + 1, by omega, by go_num, ret_add (baseC_yes (x := ⟨1, score, quality, depth, hour⟩) (k := 0) (by simpa [lim] using hq)), Bel.trans hbel hb1⟩
          case measure => simp [intOf]
        · go_wp2_with fail
          refine wp_region_past (by kernel_rfl) (by kernel_rfl) ?_
          repeat (go_big_quiet_step (fail))
          refine wpQuiet_nil ?_
          intro W1 hw'
          obtain ⟨⟨W_, hb1⟩, hw''⟩ := hw'
          subst hw''
          go_wp2
          go_roundw
          case rel => exact ⟨0 + 1, by omega, by go_num, ret_eqv (baseC_no (x := ⟨1, score, quality, depth, hour⟩) (k := 0) (by simpa [lim] using hq)), Bel.trans hbel hb1⟩
          case measure => simp [intOf]
      · skip
        -- 1 place 2 limit 3 kind
        by_cases hq : (20 : Int) < score
        · go_wp2_with fail
          refine wp_region_past (by kernel_rfl) (by kernel_rfl) ?_
          repeat (go_big_quiet_step (fail))
          refine wpQuiet_nil ?_
          intro W1 hw'
          obtain ⟨⟨W_, hb1⟩, hw''⟩ := hw'
          subst hw''
          go_wp2
          go_roundw
          case rel => exact ⟨1 + 1, by omega, by go_num, ret_add (baseC_yes (x := ⟨1, score, quality, depth, hour⟩) (k := 1) (by simpa [lim] using hq)), Bel.trans hbel hb1⟩
          case measure => simp [intOf]
        · go_wp2_with fail
          refine wp_region_past (by kernel_rfl) (by kernel_rfl) ?_
          repeat (go_big_quiet_step (fail))
          refine wpQuiet_nil ?_
          intro W1 hw'
          obtain ⟨⟨W_, hb1⟩, hw''⟩ := hw'
          subst hw''
          go_wp2
          go_roundw
          case rel => exact ⟨1 + 1, by omega, by go_num, ret_eqv (baseC_no (x := ⟨1, score, quality, depth, hour⟩) (k := 1) (by simpa [lim] using hq)), Bel.trans hbel hb1⟩
          case measure => simp [intOf]
      · skip
        -- 1 place 2 limit 3 kind
        by_cases hq : (30 : Int) < score
        · go_wp2_with fail
          refine wp_region_past (by kernel_rfl) (by kernel_rfl) ?_
          repeat (go_big_quiet_step (fail))
          refine wpQuiet_nil ?_
          intro W1 hw'
          obtain ⟨⟨W_, hb1⟩, hw''⟩ := hw'
          subst hw''
          go_wp2
          go_roundw
          case rel => exact ⟨2 + 1, by omega, by go_num, ret_add (baseC_yes (x := ⟨1, score, quality, depth, hour⟩) (k := 2) (by simpa [lim] using hq)), Bel.trans hbel hb1⟩
          case measure => simp [intOf]
        · go_wp2_with fail
          refine wp_region_past (by kernel_rfl) (by kernel_rfl) ?_
          repeat (go_big_quiet_step (fail))
          refine wpQuiet_nil ?_
          intro W1 hw'
          obtain ⟨⟨W_, hb1⟩, hw''⟩ := hw'
          subst hw''
          go_wp2
          go_roundw
          case rel => exact ⟨2 + 1, by omega, by go_num, ret_eqv (baseC_no (x := ⟨1, score, quality, depth, hour⟩) (k := 2) (by simpa [lim] using hq)), Bel.trans hbel hb1⟩
          case measure => simp [intOf]
      · go_wp2_with (first | (go_at_call 46; refine (l00Min_any _ _ _).mono ?_; rintro e w' ⟨rfl, rfl⟩) | (go_at_call 30; refine (l00Max_any _ _ _).mono ?_; rintro e w' ⟨rfl, rfl⟩))
        go_ret
        exact ⟨ret_int (by simp only [cls]), Bel.trans hbw (by repeat (first | (with_reducible assumption) | (with_reducible exact Below.refl _ _) | (with_reducible refine Bel.alloc ?_ _) | (with_reducible refine Below.drew ?_) | (with_reducible refine Bel.drewN ?_ _) | (with_reducible refine Bel.setCell ?_ (by (try simp) <;> omega) _) | (with_reducible refine Bel.trans ?_ (by assumption))))⟩
  · go_enter Try.func29, Try.ntmps29
    go_wp2_with fail
    refine wp_box_out2 ?_
    intro W hbw B0 B
    -- 1 kind 2 3 4 limits 5 block 6 the box
    have hp1 := (hbw.cell (p := ⟨b, o + 1, none⟩) hl).trans p1
    have hp2 := (hbw.cell (p := ⟨b, o + 2, none⟩) hl).trans p2
    have hlw : b < W.heap.size := Nat.lt_of_lt_of_le hl hbw.size
    have hlg : (w.heap.size+1) < W.heap.size := B.lt
    have c0 : W.cell? ⟨(w.heap.size+1), 0, none⟩ = some (.int .i64 13) := B.cell 0
    have c1 : W.cell? ⟨(w.heap.size+1), 1, none⟩ = some (.int .i64 22) := B.cell 1
    have c2 : W.cell? ⟨(w.heap.size+1), 2, none⟩ = some (.int .i64 30) := B.cell 2
    have q1 := Past.cell hp1 hlw
    have q2 := Past.cell hp2 hlw
    have d0 := Past.cell c0 hlg
    have d1 := Past.cell c1 hlg
    have d2 := Past.cell c2 hlg
    clear p0 p1 p2 p3 p4 hp1 hp2 c0 c1 c2
    go_loopw [4, 5] (fun c i wr => ∃ k : Nat, k ≤ 3 ∧ i = .int .i64 k ∧ c = .int .i64 (baseC ⟨2, score, quality, depth, hour⟩ k) ∧ Below W.heap.size W wr) (fun _ i wr => 3 - (intOf i).toNat)
    case atStart => exact ⟨0, by omega, rfl, rfl, Below.refl _ _⟩
    case round =>
      obtain ⟨k, hk, rfl, rfl, hbel⟩ := hrel
      have hbc := baseC_bd ⟨2, score, quality, depth, hour⟩ k
      have hs := hbel.size
      have q1 := Past.cell (q1 ⟨wr, hbel⟩) (Nat.lt_of_lt_of_le hlw hs)
      have r2 := q2 ⟨wr, hbel⟩
      have q2 := Past.cell (q2 ⟨wr, hbel⟩) (Nat.lt_of_lt_of_le hlw hs)
      have d0 := Past.cell (d0 ⟨wr, hbel⟩) (Nat.lt_of_lt_of_le hlg hs)
      have d1 := Past.cell (d1 ⟨wr, hbel⟩) (Nat.lt_of_lt_of_le hlg hs)
      have d2 := Past.cell (d2 ⟨wr, hbel⟩) (Nat.lt_of_lt_of_le hlg hs)
      dsimp only at r2
      rcases (show k = 0 ∨ k = 1 ∨ k = 2 ∨ k = 3 by omega) with rfl | rfl | rfl | rfl
      · skip
        -- 1 place 2 limit 3 kind
        by_cases hq : (13 : Int) < score
        · go_wp2_with fail
          refine wp_region_past (by kernel_rfl) (by kernel_rfl) ?_
          repeat (go_big_quiet_step (fail))
          refine wpQuiet_nil ?_
          intro W1 hw'
          obtain ⟨⟨W_, hb1⟩, hw''⟩ := hw'
          subst hw''
          go_wp2
          go_roundw
          case rel => exact ⟨0 + 1, by omega, by go_num, ret_add (baseC_yes (x := ⟨2, score, quality, depth, hour⟩) (k := 0) (by simpa [lim] using hq)), Bel.trans hbel hb1⟩
          case measure => simp [intOf]
        · go_wp2_with fail
          refine wp_region_past (by kernel_rfl) (by kernel_rfl) ?_
          repeat (go_big_quiet_step (fail))
          refine wpQuiet_nil ?_
          intro W1 hw'
          obtain ⟨⟨W_, hb1⟩, hw''⟩ := hw'
          subst hw''
          go_wp2
          go_roundw
          case rel => exact ⟨0 + 1, by omega, by go_num, ret_eqv (baseC_no (x := ⟨2, score, quality, depth, hour⟩) (k := 0) (by simpa [lim] using hq)), Bel.trans hbel hb1⟩
          case measure => simp [intOf]
      · skip
        -- 1 place 2 limit 3 kind
        by_cases hq : (22 : Int) < score
        · go_wp2_with fail
          refine wp_region_past (by kernel_rfl) (by kernel_rfl) ?_
          repeat (go_big_quiet_step (fail))
          refine wpQuiet_nil ?_
          intro W1 hw'
          obtain ⟨⟨W_, hb1⟩, hw''⟩ := hw'
          subst hw''
          go_wp2
          go_roundw
          case rel => exact ⟨1 + 1, by omega, by go_num, ret_add (baseC_yes (x := ⟨2, score, quality, depth, hour⟩) (k := 1) (by simpa [lim] using hq)), Bel.trans hbel hb1⟩
          case measure => simp [intOf]
        · go_wp2_with fail
          refine wp_region_past (by kernel_rfl) (by kernel_rfl) ?_
          repeat (go_big_quiet_step (fail))
          refine wpQuiet_nil ?_
          intro W1 hw'
          obtain ⟨⟨W_, hb1⟩, hw''⟩ := hw'
          subst hw''
          go_wp2
          go_roundw
          case rel => exact ⟨1 + 1, by omega, by go_num, ret_eqv (baseC_no (x := ⟨2, score, quality, depth, hour⟩) (k := 1) (by simpa [lim] using hq)), Bel.trans hbel hb1⟩
          case measure => simp [intOf]
      · skip
        -- 1 place 2 limit 3 kind
        by_cases hq : (30 : Int) < score
        · go_wp2_with fail
          refine wp_region_past (by kernel_rfl) (by kernel_rfl) ?_
          repeat (go_big_quiet_step (fail))
          refine wpQuiet_nil ?_
          intro W1 hw'
          obtain ⟨⟨W_, hb1⟩, hw''⟩ := hw'
          subst hw''
          go_wp2
          go_roundw
          case rel => exact ⟨2 + 1, by omega, by go_num, ret_add (baseC_yes (x := ⟨2, score, quality, depth, hour⟩) (k := 2) (by simpa [lim] using hq)), Bel.trans hbel hb1⟩
          case measure => simp [intOf]
        · go_wp2_with fail
          refine wp_region_past (by kernel_rfl) (by kernel_rfl) ?_
          repeat (go_big_quiet_step (fail))
          refine wpQuiet_nil ?_
          intro W1 hw'
          obtain ⟨⟨W_, hb1⟩, hw''⟩ := hw'
          subst hw''
          go_wp2
          go_roundw
          case rel => exact ⟨2 + 1, by omega, by go_num, ret_eqv (baseC_no (x := ⟨2, score, quality, depth, hour⟩) (k := 2) (by simpa [lim] using hq)), Bel.trans hbel hb1⟩
          case measure => simp [intOf]
      · go_wp2_with (first | (go_at_call 46; refine (l00Min_any _ _ _).mono ?_; rintro e w' ⟨rfl, rfl⟩) | (go_at_call 30; refine (l00Max_any _ _ _).mono ?_; rintro e w' ⟨rfl, rfl⟩))
        go_ret
        exact ⟨ret_int (by simp only [cls]), Bel.trans hbw (by repeat (first | (with_reducible assumption) | (with_reducible exact Below.refl _ _) | (with_reducible refine Bel.alloc ?_ _) | (with_reducible refine Below.drew ?_) | (with_reducible refine Bel.drewN ?_ _) | (with_reducible refine Bel.setCell ?_ (by (try simp) <;> omega) _) | (with_reducible refine Bel.trans ?_ (by assumption))))⟩
  · go_enter Try.func29, Try.ntmps29
    go_wp2_with fail
    refine wp_box_out2 ?_
    intro W hbw B0 B
    -- 1 kind 2 3 4 limits 5 block 6 the box
    have hp1 := (hbw.cell (p := ⟨b, o + 1, none⟩) hl).trans p1
    have hp2 := (hbw.cell (p := ⟨b, o + 2, none⟩) hl).trans p2
    have hlw : b < W.heap.size := Nat.lt_of_lt_of_le hl hbw.size
    have hlg : (w.heap.size+1) < W.heap.size := B.lt
    have c0 : W.cell? ⟨(w.heap.size+1), 0, none⟩ = some (.int .i64 2) := B.cell 0
    have c1 : W.cell? ⟨(w.heap.size+1), 1, none⟩ = some (.int .i64 4) := B.cell 1
    have c2 : W.cell? ⟨(w.heap.size+1), 2, none⟩ = some (.int .i64 6) := B.cell 2
    have q1 := Past.cell hp1 hlw
    have q2 := Past.cell hp2 hlw
    have d0 := Past.cell c0 hlg
    have d1 := Past.cell c1 hlg
    have d2 := Past.cell c2 hlg
    clear p0 p1 p2 p3 p4 hp1 hp2 c0 c1 c2
    go_loopw [4, 5] (fun c i wr => ∃ k : Nat, k ≤ 3 ∧ i = .int .i64 k ∧ c = .int .i64 (baseC ⟨3, score, quality, depth, hour⟩ k) ∧ Below W.heap.size W wr) (fun _ i wr => 3 - (intOf i).toNat)
    case atStart => exact ⟨0, by omega, rfl, rfl, Below.refl _ _⟩
    case round =>
      obtain ⟨k, hk, rfl, rfl, hbel⟩ := hrel
      have hbc := baseC_bd ⟨3, score, quality, depth, hour⟩ k
      have hs := hbel.size
      have q1 := Past.cell (q1 ⟨wr, hbel⟩) (Nat.lt_of_lt_of_le hlw hs)
      have r2 := q2 ⟨wr, hbel⟩
      have q2 := Past.cell (q2 ⟨wr, hbel⟩) (Nat.lt_of_lt_of_le hlw hs)
      have d0 := Past.cell (d0 ⟨wr, hbel⟩) (Nat.lt_of_lt_of_le hlg hs)
      have d1 := Past.cell (d1 ⟨wr, hbel⟩) (Nat.lt_of_lt_of_le hlg hs)
      have d2 := Past.cell (d2 ⟨wr, hbel⟩) (Nat.lt_of_lt_of_le hlg hs)
      dsimp only at r2
      rcases (show k = 0 ∨ k = 1 ∨ k = 2 ∨ k = 3 by omega) with rfl | rfl | rfl | rfl
      · skip
        -- 1 place 2 limit 3 kind
        by_cases hq : (2 : Int) < score
        · go_wp2_with fail
          refine wp_region_past (by kernel_rfl) (by kernel_rfl) ?_
          repeat (go_big_quiet_step (fail))
          refine wpQuiet_nil ?_
          intro W1 hw'
          obtain ⟨⟨W_, hb1⟩, hw''⟩ := hw'
          subst hw''
          go_wp2
          go_roundw
          case rel => exact ⟨0 + 1, by omega, by go_num, ret_add (baseC_yes (x := ⟨3, score, quality, depth, hour⟩) (k := 0) (by simpa [lim] using hq)), Bel.trans hbel hb1⟩
          case measure => simp [intOf]
        · go_wp2_with fail
          refine wp_region_past (by kernel_rfl) (by kernel_rfl) ?_
          repeat (go_big_quiet_step (fail))
          refine wpQuiet_nil ?_
          intro W1 hw'
          obtain ⟨⟨W_, hb1⟩, hw''⟩ := hw'
          subst hw''
          go_wp2
          go_roundw
          case rel => exact ⟨0 + 1, by omega, by go_num, ret_eqv (baseC_no (x := ⟨3, score, quality, depth, hour⟩) (k := 0) (by simpa [lim] using hq)), Bel.trans hbel hb1⟩
          case measure => simp [intOf]
      · skip
        -- 1 place 2 limit 3 kind
        by_cases hq : (4 : Int) < score
        · go_wp2_with fail
          refine wp_region_past (by kernel_rfl) (by kernel_rfl) ?_
          repeat (go_big_quiet_step (fail))
          refine wpQuiet_nil ?_
          intro W1 hw'
          obtain ⟨⟨W_, hb1⟩, hw''⟩ := hw'
          subst hw''
          go_wp2
          go_roundw
          case rel => exact ⟨1 + 1, by omega, by go_num, ret_add (baseC_yes (x := ⟨3, score, quality, depth, hour⟩) (k := 1) (by simpa [lim] using hq)), Bel.trans hbel hb1⟩
          case measure => simp [intOf]
        · go_wp2_with fail
          refine wp_region_past (by kernel_rfl) (by kernel_rfl) ?_
          repeat (go_big_quiet_step (fail))
          refine wpQuiet_nil ?_
          intro W1 hw'
          obtain ⟨⟨W_, hb1⟩, hw''⟩ := hw'
          subst hw''
          go_wp2
          go_roundw
          case rel => exact ⟨1 + 1, by omega, by go_num, ret_eqv (baseC_no (x := ⟨3, score, quality, depth, hour⟩) (k := 1) (by simpa [lim] using hq)), Bel.trans hbel hb1⟩
          case measure => simp [intOf]
      · skip
        -- 1 place 2 limit 3 kind
        by_cases hq : (6 : Int) < score
        · go_wp2_with fail
          refine wp_region_past (by kernel_rfl) (by kernel_rfl) ?_
          repeat (go_big_quiet_step (fail))
          refine wpQuiet_nil ?_
          intro W1 hw'
          obtain ⟨⟨W_, hb1⟩, hw''⟩ := hw'
          subst hw''
          go_wp2
          go_roundw
          case rel => exact ⟨2 + 1, by omega, by go_num, ret_add (baseC_yes (x := ⟨3, score, quality, depth, hour⟩) (k := 2) (by simpa [lim] using hq)), Bel.trans hbel hb1⟩
          case measure => simp [intOf]
        · go_wp2_with fail
          refine wp_region_past (by kernel_rfl) (by kernel_rfl) ?_
          repeat (go_big_quiet_step (fail))
          refine wpQuiet_nil ?_
          intro W1 hw'
          obtain ⟨⟨W_, hb1⟩, hw''⟩ := hw'
          subst hw''
          go_wp2
          go_roundw
          case rel => exact ⟨2 + 1, by omega, by go_num, ret_eqv (baseC_no (x := ⟨3, score, quality, depth, hour⟩) (k := 2) (by simpa [lim] using hq)), Bel.trans hbel hb1⟩
          case measure => simp [intOf]
      · go_wp2_with (first | (go_at_call 46; refine (l00Min_any _ _ _).mono ?_; rintro e w' ⟨rfl, rfl⟩) | (go_at_call 30; refine (l00Max_any _ _ _).mono ?_; rintro e w' ⟨rfl, rfl⟩))
        go_ret
        exact ⟨ret_int (by simp only [cls]), Bel.trans hbw (by repeat (first | (with_reducible assumption) | (with_reducible exact Below.refl _ _) | (with_reducible refine Bel.alloc ?_ _) | (with_reducible refine Below.drew ?_) | (with_reducible refine Bel.drewN ?_ _) | (with_reducible refine Bel.setCell ?_ (by (try simp) <;> omega) _) | (with_reducible refine Bel.trans ?_ (by assumption))))⟩
end Go.Proofs.Ytlicpgmcnebpmaa
