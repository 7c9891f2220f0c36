/- Chapter 25: the chance to survive some minutes: the reference. -/
import Derived.Test.YtdkiahlpajgekaaL25t
namespace Go.Proofs.Ytdkiahlpajgekaa
set_option linter.unusedSimpArgs false
set_option linter.unusedVariables false
open Go.RowKit
set_option maxHeartbeats 2000000
set_option maxRecDepth 100000
theorem l25Times_any (w : World) : Calls Try.prog 46 #[] w fun e w' => e = .returned (.slice (some ⟨w.heap.size, 0, none⟩) 8 8) ∧ Below w.heap.size w w' ∧ Box 2 w' w.heap.size #[.int .i64 0, .int .i64 10, .int .i64 15, .int .i64 35, .int .i64 60, .int .i64 90, .int .i64 130, .int .i64 180] := by
  go_enter Try.func46, Try.ntmps46
  go_wp2
  go_ret
  exact ⟨rfl, Bel.alloc (Below.refl _ _) _, Box.new _ _ _⟩
theorem l25Chances_any (w : World) : Calls Try.prog 47 #[] w fun e w' => e = .returned (.slice (some ⟨w.heap.size, 0, none⟩) 8 8) ∧ Below w.heap.size w w' ∧ Box 2 w' w.heap.size #[.int .i64 1000, .int .i64 930, .int .i64 900, .int .i64 320, .int .i64 280, .int .i64 240, .int .i64 100, .int .i64 30] := by
  go_enter Try.func47, Try.ntmps47
  go_wp2
  go_ret
  exact ⟨rfl, Bel.alloc (Below.refl _ _) _, Box.new _ _ _⟩
theorem l25Survival_any (m : Int) (w : World) (h0 : 0 ≤ m) (h1 : m ≤ 100000) : Calls Try.prog 40 #[.int .i64 m] w fun e w' => e = .returned (.int .i64 (surv m)) ∧ Below w.heap.size w w' := by
  go_enter Try.func40, Try.ntmps40
  go_wp2_with fail
  refine (l25Times_any _).mono ?_
  rintro e u1 ⟨rfl, hb1, B⟩
  go_wp2_with fail
  refine (l25Chances_any _).mono ?_
  rintro e u2 ⟨rfl, hb2, D⟩
  have hlt1 := B.lt
  have B := B.below hb2
  have hbw := Bel.trans hb1 hb2
  clear hb1 hb2
  have HB := Lib.hid B
  have HD := Lib.hid D
  have c0 : u2.cell? ⟨w.heap.size, 0, none⟩ = some (.int .i64 0) := B.cell 0
  have c1 : u2.cell? ⟨w.heap.size, 1, none⟩ = some (.int .i64 10) := B.cell 1
  have c2 : u2.cell? ⟨w.heap.size, 2, none⟩ = some (.int .i64 15) := B.cell 2
  have c3 : u2.cell? ⟨w.heap.size, 3, none⟩ = some (.int .i64 35) := B.cell 3
  have c4 : u2.cell? ⟨w.heap.size, 4, none⟩ = some (.int .i64 60) := B.cell 4
  have c5 : u2.cell? ⟨w.heap.size, 5, none⟩ = some (.int .i64 90) := B.cell 5
  have c6 : u2.cell? ⟨w.heap.size, 6, none⟩ = some (.int .i64 130) := B.cell 6
  have c7 : u2.cell? ⟨w.heap.size, 7, none⟩ = some (.int .i64 180) := B.cell 7
  have z0 : u2.frozen? ⟨w.heap.size, 0, none⟩ = false := B.free 0
  have z1 : u2.frozen? ⟨w.heap.size, 1, none⟩ = false := B.free 1
  have z2 : u2.frozen? ⟨w.heap.size, 2, none⟩ = false := B.free 2
  have z3 : u2.frozen? ⟨w.heap.size, 3, none⟩ = false := B.free 3
  have z4 : u2.frozen? ⟨w.heap.size, 4, none⟩ = false := B.free 4
  have z5 : u2.frozen? ⟨w.heap.size, 5, none⟩ = false := B.free 5
  have z6 : u2.frozen? ⟨w.heap.size, 6, none⟩ = false := B.free 6
  have z7 : u2.frozen? ⟨w.heap.size, 7, none⟩ = false := B.free 7
  have d0 : u2.cell? ⟨u1.heap.size, 0, none⟩ = some (.int .i64 1000) := D.cell 0
  have d1 : u2.cell? ⟨u1.heap.size, 1, none⟩ = some (.int .i64 930) := D.cell 1
  have d2 : u2.cell? ⟨u1.heap.size, 2, none⟩ = some (.int .i64 900) := D.cell 2
  have d3 : u2.cell? ⟨u1.heap.size, 3, none⟩ = some (.int .i64 320) := D.cell 3
  have d4 : u2.cell? ⟨u1.heap.size, 4, none⟩ = some (.int .i64 280) := D.cell 4
  have d5 : u2.cell? ⟨u1.heap.size, 5, none⟩ = some (.int .i64 240) := D.cell 5
  have d6 : u2.cell? ⟨u1.heap.size, 6, none⟩ = some (.int .i64 100) := D.cell 6
  have d7 : u2.cell? ⟨u1.heap.size, 7, none⟩ = some (.int .i64 30) := D.cell 7
  have y0 : u2.frozen? ⟨u1.heap.size, 0, none⟩ = false := D.free 0
  have y1 : u2.frozen? ⟨u1.heap.size, 1, none⟩ = false := D.free 1
  have y2 : u2.frozen? ⟨u1.heap.size, 2, none⟩ = false := D.free 2
  have y3 : u2.frozen? ⟨u1.heap.size, 3, none⟩ = false := D.free 3
  have y4 : u2.frozen? ⟨u1.heap.size, 4, none⟩ = false := D.free 4
  have y5 : u2.frozen? ⟨u1.heap.size, 5, none⟩ = false := D.free 5
  have y6 : u2.frozen? ⟨u1.heap.size, 6, none⟩ = false := D.free 6
  have y7 : u2.frozen? ⟨u1.heap.size, 7, none⟩ = false := D.free 7
  clear B D z0 z1 z2 z3 z4 z5 z6 z7 y0 y1 y2 y3 y4 y5 y6 y7
  by_cases he : (180 : Int) ≤ m
  · have HE := Lib.hid (surv_end he)
    go_wp2
    go_ret
    exact ⟨ret_int HE.out.symm, hbw⟩
  have he2 : decide ((180 : Int) ≤ m) = false := decide_eq_false he
  go_wp2_with fail
  clear c0 c1 c2 c3 c4 c5 c6 c7 d0 d1 d2 d3 d4 d5 d6 d7
  go_loopw [6] (fun i wr => ∃ k : Nat, k ≤ 6 ∧ i = .int .i64 k ∧ Box 2 wr w.heap.size #[.int .i64 0, .int .i64 10, .int .i64 15, .int .i64 35, .int .i64 60, .int .i64 90, .int .i64 130, .int .i64 180] ∧ Box 2 wr u1.heap.size #[.int .i64 1000, .int .i64 930, .int .i64 900, .int .i64 320, .int .i64 280, .int .i64 240, .int .i64 100, .int .i64 30] ∧ Below w.heap.size w wr ∧ ∀ j, j ≤ k → tT j ≤ m) (fun i wr => 6 - (intOf i).toNat)
  case atStart => exact ⟨0, by omega, rfl, HB.out, HD.out, hbw, fun j hj => by rw [show j = 0 by omega]; exact h0⟩
  case round =>
    clear HB HD
    obtain ⟨k, hk, rfl, B, D, hbel, ht⟩ := hrel
    have HT := Lib.hid ht
    have hk0 : tT k ≤ m := ht k (Nat.le_refl _)
    have HB := Lib.hid B
    have HD := Lib.hid D
    have c0 : wr.cell? ⟨w.heap.size, 0, none⟩ = some (.int .i64 0) := B.cell 0
    have c1 : wr.cell? ⟨w.heap.size, 1, none⟩ = some (.int .i64 10) := B.cell 1
    have c2 : wr.cell? ⟨w.heap.size, 2, none⟩ = some (.int .i64 15) := B.cell 2
    have c3 : wr.cell? ⟨w.heap.size, 3, none⟩ = some (.int .i64 35) := B.cell 3
    have c4 : wr.cell? ⟨w.heap.size, 4, none⟩ = some (.int .i64 60) := B.cell 4
    have c5 : wr.cell? ⟨w.heap.size, 5, none⟩ = some (.int .i64 90) := B.cell 5
    have c6 : wr.cell? ⟨w.heap.size, 6, none⟩ = some (.int .i64 130) := B.cell 6
    have c7 : wr.cell? ⟨w.heap.size, 7, none⟩ = some (.int .i64 180) := B.cell 7
    have z0 : wr.frozen? ⟨w.heap.size, 0, none⟩ = false := B.free 0
    have z1 : wr.frozen? ⟨w.heap.size, 1, none⟩ = false := B.free 1
    have z2 : wr.frozen? ⟨w.heap.size, 2, none⟩ = false := B.free 2
    have z3 : wr.frozen? ⟨w.heap.size, 3, none⟩ = false := B.free 3
    have z4 : wr.frozen? ⟨w.heap.size, 4, none⟩ = false := B.free 4
    have z5 : wr.frozen? ⟨w.heap.size, 5, none⟩ = false := B.free 5
    have z6 : wr.frozen? ⟨w.heap.size, 6, none⟩ = false := B.free 6
    have z7 : wr.frozen? ⟨w.heap.size, 7, none⟩ = false := B.free 7
    clear z0 z1 z2 z3 z4 z5 z6 z7
    clear B D ht
    rcases (show k = 0 ∨ k = 1 ∨ k = 2 ∨ k = 3 ∨ k = 4 ∨ k = 5 ∨ k = 6 by omega) with rfl | rfl | rfl | rfl | rfl | rfl | rfl
    · replace hk0 : (0 : Int) ≤ m := hk0
      -- 1 k+1, 2 next value, 3.. x0 y0 x1 y1, law
      by_cases hq : (10 : Int) ≤ m
      · go_wp2
        go_roundw
        case rel => exact ⟨1, by omega, by go_num, HB.out, HD.out, hbel, fun j hj => by rcases (show j < 1 ∨ j = 1 by omega) with h | h; (exact HT.out j (by omega)); (subst h; exact hq)⟩
        case measure => simp [intOf]
      · have hq2 : decide ((10 : Int) ≤ m) = false := decide_eq_false hq
        go_wp2_with fail
        -- 1 x0 y0 x1 y1, 5 the law
        clear c0 c1 c2 c3 c4 c5 c6 c7
        have B := HB.out
        have D := HD.out
        have p0 := Past.box B (j := 0) (v := .int .i64 0) rfl
        have p1 := Past.box B (j := 1) (v := .int .i64 10) rfl
        have p2 := Past.box B (j := 2) (v := .int .i64 15) rfl
        have p3 := Past.box B (j := 3) (v := .int .i64 35) rfl
        have p4 := Past.box B (j := 4) (v := .int .i64 60) rfl
        have p5 := Past.box B (j := 5) (v := .int .i64 90) rfl
        have p6 := Past.box B (j := 6) (v := .int .i64 130) rfl
        have p7 := Past.box B (j := 7) (v := .int .i64 180) rfl
        have q0 := Past.box D (j := 0) (v := .int .i64 1000) rfl
        have q1 := Past.box D (j := 1) (v := .int .i64 930) rfl
        have q2 := Past.box D (j := 2) (v := .int .i64 900) rfl
        have q3 := Past.box D (j := 3) (v := .int .i64 320) rfl
        have q4 := Past.box D (j := 4) (v := .int .i64 280) rfl
        have q5 := Past.box D (j := 5) (v := .int .i64 240) rfl
        have q6 := Past.box D (j := 6) (v := .int .i64 100) rfl
        have q7 := Past.box D (j := 7) (v := .int .i64 30) rfl
        clear B D HB HD
        have e1 : (1000 : Int) + rdiv ((930 - 1000) * (m - 0)) (10 - 0) = surv m := (blendV_mid (by omega) (by omega)).symm.trans (surv_0 (by omega))
        have E := Lib.hid e1
        clear e1
        refine wp_region_past (by kernel_rfl) (by kernel_rfl) ?_
        repeat (go_big_quiet_step ((go_at_call 48; exact Past.same _ (l01Div_any _ _ _ (by omega) (by omega) (by omega) (by omega)))))
        refine wpQuiet_nil ?_
        intro W1 hw'
        obtain ⟨⟨W_, hb1⟩, hw''⟩ := hw'
        subst hw''
        clear p0 p1 p2 p3 p4 p5 p6 p7 q0 q1 q2 q3 q4 q5 q6 q7
        go_wp2
        go_ret
        exact ⟨ret_int (by have h := E.out; have hw := surv_bd h0; simp at h ⊢; rw [h]; unfold wrap64; omega), Bel.trans hbel hb1⟩
    · replace hk0 : (10 : Int) ≤ m := hk0
      -- 1 k+1, 2 next value, 3.. x0 y0 x1 y1, law
      by_cases hq : (15 : Int) ≤ m
      · go_wp2
        go_roundw
        case rel => exact ⟨2, by omega, by go_num, HB.out, HD.out, hbel, fun j hj => by rcases (show j < 2 ∨ j = 2 by omega) with h | h; (exact HT.out j (by omega)); (subst h; exact hq)⟩
        case measure => simp [intOf]
      · have hq2 : decide ((15 : Int) ≤ m) = false := decide_eq_false hq
        go_wp2_with fail
        -- 1 x0 y0 x1 y1, 5 the law
        clear c0 c1 c2 c3 c4 c5 c6 c7
        have B := HB.out
        have D := HD.out
        have p0 := Past.box B (j := 0) (v := .int .i64 0) rfl
        have p1 := Past.box B (j := 1) (v := .int .i64 10) rfl
        have p2 := Past.box B (j := 2) (v := .int .i64 15) rfl
        have p3 := Past.box B (j := 3) (v := .int .i64 35) rfl
        have p4 := Past.box B (j := 4) (v := .int .i64 60) rfl
        have p5 := Past.box B (j := 5) (v := .int .i64 90) rfl
        have p6 := Past.box B (j := 6) (v := .int .i64 130) rfl
        have p7 := Past.box B (j := 7) (v := .int .i64 180) rfl
        have q0 := Past.box D (j := 0) (v := .int .i64 1000) rfl
        have q1 := Past.box D (j := 1) (v := .int .i64 930) rfl
        have q2 := Past.box D (j := 2) (v := .int .i64 900) rfl
        have q3 := Past.box D (j := 3) (v := .int .i64 320) rfl
        have q4 := Past.box D (j := 4) (v := .int .i64 280) rfl
        have q5 := Past.box D (j := 5) (v := .int .i64 240) rfl
        have q6 := Past.box D (j := 6) (v := .int .i64 100) rfl
        have q7 := Past.box D (j := 7) (v := .int .i64 30) rfl
        clear B D HB HD
        have e1 : (930 : Int) + rdiv ((900 - 930) * (m - 10)) (15 - 10) = surv m := (blendV_mid (by omega) (by omega)).symm.trans (surv_1 hk0 (by omega))
        have E := Lib.hid e1
        clear e1
        refine wp_region_past (by kernel_rfl) (by kernel_rfl) ?_
        repeat (go_big_quiet_step ((go_at_call 48; exact Past.same _ (l01Div_any _ _ _ (by omega) (by omega) (by omega) (by omega)))))
        refine wpQuiet_nil ?_
        intro W1 hw'
        obtain ⟨⟨W_, hb1⟩, hw''⟩ := hw'
        subst hw''
        clear p0 p1 p2 p3 p4 p5 p6 p7 q0 q1 q2 q3 q4 q5 q6 q7
        go_wp2
        go_ret
        exact ⟨ret_int (by have h := E.out; have hw := surv_bd h0; simp at h ⊢; rw [h]; unfold wrap64; omega), Bel.trans hbel hb1⟩
    · replace hk0 : (15 : Int) ≤ m := hk0
      -- 1 k+1, 2 next value, 3.. x0 y0 x1 y1, law
      by_cases hq : (35 : Int) ≤ m
      · go_wp2
        go_roundw
        case rel => exact ⟨3, by omega, by go_num, HB.out, HD.out, hbel, fun j hj => by rcases (show j < 3 ∨ j = 3 by omega) with h | h; (exact HT.out j (by omega)); (subst h; exact hq)⟩
        case measure => simp [intOf]
      · have hq2 : decide ((35 : Int) ≤ m) = false := decide_eq_false hq
        go_wp2_with fail
        -- 1 x0 y0 x1 y1, 5 the law
        clear c0 c1 c2 c3 c4 c5 c6 c7
        have B := HB.out
        have D := HD.out
        have p0 := Past.box B (j := 0) (v := .int .i64 0) rfl
        have p1 := Past.box B (j := 1) (v := .int .i64 10) rfl
        have p2 := Past.box B (j := 2) (v := .int .i64 15) rfl
        have p3 := Past.box B (j := 3) (v := .int .i64 35) rfl
        have p4 := Past.box B (j := 4) (v := .int .i64 60) rfl
        have p5 := Past.box B (j := 5) (v := .int .i64 90) rfl
        have p6 := Past.box B (j := 6) (v := .int .i64 130) rfl
        have p7 := Past.box B (j := 7) (v := .int .i64 180) rfl
        have q0 := Past.box D (j := 0) (v := .int .i64 1000) rfl
        have q1 := Past.box D (j := 1) (v := .int .i64 930) rfl
        have q2 := Past.box D (j := 2) (v := .int .i64 900) rfl
        have q3 := Past.box D (j := 3) (v := .int .i64 320) rfl
        have q4 := Past.box D (j := 4) (v := .int .i64 280) rfl
        have q5 := Past.box D (j := 5) (v := .int .i64 240) rfl
        have q6 := Past.box D (j := 6) (v := .int .i64 100) rfl
        have q7 := Past.box D (j := 7) (v := .int .i64 30) rfl
        clear B D HB HD
        have e1 : (900 : Int) + rdiv ((320 - 900) * (m - 15)) (35 - 15) = surv m := (blendV_mid (by omega) (by omega)).symm.trans (surv_2 hk0 (by omega))
        have E := Lib.hid e1
        clear e1
        refine wp_region_past (by kernel_rfl) (by kernel_rfl) ?_
        repeat (go_big_quiet_step ((go_at_call 48; exact Past.same _ (l01Div_any _ _ _ (by omega) (by omega) (by omega) (by omega)))))
        refine wpQuiet_nil ?_
        intro W1 hw'
        obtain ⟨⟨W_, hb1⟩, hw''⟩ := hw'
        subst hw''
        clear p0 p1 p2 p3 p4 p5 p6 p7 q0 q1 q2 q3 q4 q5 q6 q7
        go_wp2
        go_ret
        exact ⟨ret_int (by have h := E.out; have hw := surv_bd h0; simp at h ⊢; rw [h]; unfold wrap64; omega), Bel.trans hbel hb1⟩
    · replace hk0 : (35 : Int) ≤ m := hk0
      -- 1 k+1, 2 next value, 3.. x0 y0 x1 y1, law
      by_cases hq : (60 : Int) ≤ m
      · go_wp2
        go_roundw
        case rel => exact ⟨4, by omega, by go_num, HB.out, HD.out, hbel, fun j hj => by rcases (show j < 4 ∨ j = 4 by omega) with h | h; (exact HT.out j (by omega)); (subst h; exact hq)⟩
        case measure => simp [intOf]
      · have hq2 : decide ((60 : Int) ≤ m) = false := decide_eq_false hq
        go_wp2_with fail
        -- 1 x0 y0 x1 y1, 5 the law
        clear c0 c1 c2 c3 c4 c5 c6 c7
        have B := HB.out
        have D := HD.out
        have p0 := Past.box B (j := 0) (v := .int .i64 0) rfl
        have p1 := Past.box B (j := 1) (v := .int .i64 10) rfl
        have p2 := Past.box B (j := 2) (v := .int .i64 15) rfl
        have p3 := Past.box B (j := 3) (v := .int .i64 35) rfl
        have p4 := Past.box B (j := 4) (v := .int .i64 60) rfl
        have p5 := Past.box B (j := 5) (v := .int .i64 90) rfl
        have p6 := Past.box B (j := 6) (v := .int .i64 130) rfl
        have p7 := Past.box B (j := 7) (v := .int .i64 180) rfl
        have q0 := Past.box D (j := 0) (v := .int .i64 1000) rfl
        have q1 := Past.box D (j := 1) (v := .int .i64 930) rfl
        have q2 := Past.box D (j := 2) (v := .int .i64 900) rfl
        have q3 := Past.box D (j := 3) (v := .int .i64 320) rfl
        have q4 := Past.box D (j := 4) (v := .int .i64 280) rfl
        have q5 := Past.box D (j := 5) (v := .int .i64 240) rfl
        have q6 := Past.box D (j := 6) (v := .int .i64 100) rfl
        have q7 := Past.box D (j := 7) (v := .int .i64 30) rfl
        clear B D HB HD
        have e1 : (320 : Int) + rdiv ((280 - 320) * (m - 35)) (60 - 35) = surv m := (blendV_mid (by omega) (by omega)).symm.trans (surv_3 hk0 (by omega))
        have E := Lib.hid e1
        clear e1
        refine wp_region_past (by kernel_rfl) (by kernel_rfl) ?_
        repeat (go_big_quiet_step ((go_at_call 48; exact Past.same _ (l01Div_any _ _ _ (by omega) (by omega) (by omega) (by omega)))))
        refine wpQuiet_nil ?_
        intro W1 hw'
        obtain ⟨⟨W_, hb1⟩, hw''⟩ := hw'
        subst hw''
        clear p0 p1 p2 p3 p4 p5 p6 p7 q0 q1 q2 q3 q4 q5 q6 q7
        go_wp2
        go_ret
        exact ⟨ret_int (by have h := E.out; have hw := surv_bd h0; simp at h ⊢; rw [h]; unfold wrap64; omega), Bel.trans hbel hb1⟩
    · replace hk0 : (60 : Int) ≤ m := hk0
      -- 1 k+1, 2 next value, 3.. x0 y0 x1 y1, law
      by_cases hq : (90 : Int) ≤ m
      · go_wp2
        go_roundw
        case rel => exact ⟨5, by omega, by go_num, HB.out, HD.out, hbel, fun j hj => by rcases (show j < 5 ∨ j = 5 by omega) with h | h; (exact HT.out j (by omega)); (subst h; exact hq)⟩
        case measure => simp [intOf]
      · have hq2 : decide ((90 : Int) ≤ m) = false := decide_eq_false hq
        go_wp2_with fail
        -- 1 x0 y0 x1 y1, 5 the law
        clear c0 c1 c2 c3 c4 c5 c6 c7
        have B := HB.out
        have D := HD.out
        have p0 := Past.box B (j := 0) (v := .int .i64 0) rfl
        have p1 := Past.box B (j := 1) (v := .int .i64 10) rfl
        have p2 := Past.box B (j := 2) (v := .int .i64 15) rfl
        have p3 := Past.box B (j := 3) (v := .int .i64 35) rfl
        have p4 := Past.box B (j := 4) (v := .int .i64 60) rfl
        have p5 := Past.box B (j := 5) (v := .int .i64 90) rfl
        have p6 := Past.box B (j := 6) (v := .int .i64 130) rfl
        have p7 := Past.box B (j := 7) (v := .int .i64 180) rfl
        have q0 := Past.box D (j := 0) (v := .int .i64 1000) rfl
        have q1 := Past.box D (j := 1) (v := .int .i64 930) rfl
        have q2 := Past.box D (j := 2) (v := .int .i64 900) rfl
        have q3 := Past.box D (j := 3) (v := .int .i64 320) rfl
        have q4 := Past.box D (j := 4) (v := .int .i64 280) rfl
        have q5 := Past.box D (j := 5) (v := .int .i64 240) rfl
        have q6 := Past.box D (j := 6) (v := .int .i64 100) rfl
        have q7 := Past.box D (j := 7) (v := .int .i64 30) rfl
        clear B D HB HD
        have e1 : (280 : Int) + rdiv ((240 - 280) * (m - 60)) (90 - 60) = surv m := (blendV_mid (by omega) (by omega)).symm.trans (surv_4 hk0 (by omega))
        have E := Lib.hid e1
        clear e1
        refine wp_region_past (by kernel_rfl) (by kernel_rfl) ?_
        repeat (go_big_quiet_step ((go_at_call 48; exact Past.same _ (l01Div_any _ _ _ (by omega) (by omega) (by omega) (by omega)))))
        refine wpQuiet_nil ?_
        intro W1 hw'
        obtain ⟨⟨W_, hb1⟩, hw''⟩ := hw'
        subst hw''
        clear p0 p1 p2 p3 p4 p5 p6 p7 q0 q1 q2 q3 q4 q5 q6 q7
        go_wp2
        go_ret
        exact ⟨ret_int (by have h := E.out; have hw := surv_bd h0; simp at h ⊢; rw [h]; unfold wrap64; omega), Bel.trans hbel hb1⟩
    · replace hk0 : (90 : Int) ≤ m := hk0
      -- 1 k+1, 2 next value, 3.. x0 y0 x1 y1, law
      by_cases hq : (130 : Int) ≤ m
      · go_wp2
        go_roundw
        case rel => exact ⟨6, by omega, by go_num, HB.out, HD.out, hbel, fun j hj => by rcases (show j < 6 ∨ j = 6 by omega) with h | h; (exact HT.out j (by omega)); (subst h; exact hq)⟩
        case measure => simp [intOf]
      · have hq2 : decide ((130 : Int) ≤ m) = false := decide_eq_false hq
        go_wp2_with fail
        -- 1 x0 y0 x1 y1, 5 the law
        clear c0 c1 c2 c3 c4 c5 c6 c7
        have B := HB.out
        have D := HD.out
        have p0 := Past.box B (j := 0) (v := .int .i64 0) rfl
        have p1 := Past.box B (j := 1) (v := .int .i64 10) rfl
        have p2 := Past.box B (j := 2) (v := .int .i64 15) rfl
        have p3 := Past.box B (j := 3) (v := .int .i64 35) rfl
        have p4 := Past.box B (j := 4) (v := .int .i64 60) rfl
        have p5 := Past.box B (j := 5) (v := .int .i64 90) rfl
        have p6 := Past.box B (j := 6) (v := .int .i64 130) rfl
        have p7 := Past.box B (j := 7) (v := .int .i64 180) rfl
        have q0 := Past.box D (j := 0) (v := .int .i64 1000) rfl
        have q1 := Past.box D (j := 1) (v := .int .i64 930) rfl
        have q2 := Past.box D (j := 2) (v := .int .i64 900) rfl
        have q3 := Past.box D (j := 3) (v := .int .i64 320) rfl
        have q4 := Past.box D (j := 4) (v := .int .i64 280) rfl
        have q5 := Past.box D (j := 5) (v := .int .i64 240) rfl
        have q6 := Past.box D (j := 6) (v := .int .i64 100) rfl
        have q7 := Past.box D (j := 7) (v := .int .i64 30) rfl
        clear B D HB HD
        have e1 : (240 : Int) + rdiv ((100 - 240) * (m - 90)) (130 - 90) = surv m := (blendV_mid (by omega) (by omega)).symm.trans (surv_5 hk0 (by omega))
        have E := Lib.hid e1
        clear e1
        refine wp_region_past (by kernel_rfl) (by kernel_rfl) ?_
        repeat (go_big_quiet_step ((go_at_call 48; exact Past.same _ (l01Div_any _ _ _ (by omega) (by omega) (by omega) (by omega)))))
        refine wpQuiet_nil ?_
        intro W1 hw'
        obtain ⟨⟨W_, hb1⟩, hw''⟩ := hw'
        subst hw''
        clear p0 p1 p2 p3 p4 p5 p6 p7 q0 q1 q2 q3 q4 q5 q6 q7
        go_wp2
        go_ret
        exact ⟨ret_int (by have h := E.out; have hw := surv_bd h0; simp at h ⊢; rw [h]; unfold wrap64; omega), Bel.trans hbel hb1⟩
    · replace hk0 : (130 : Int) ≤ m := hk0
      go_wp2_with fail
      -- 1 x0 y0 x1 y1, 5 the law
      clear c0 c1 c2 c3 c4 c5 c6 c7
      have B := HB.out
      have D := HD.out
      have p0 := Past.box B (j := 0) (v := .int .i64 0) rfl
      have p1 := Past.box B (j := 1) (v := .int .i64 10) rfl
      have p2 := Past.box B (j := 2) (v := .int .i64 15) rfl
      have p3 := Past.box B (j := 3) (v := .int .i64 35) rfl
      have p4 := Past.box B (j := 4) (v := .int .i64 60) rfl
      have p5 := Past.box B (j := 5) (v := .int .i64 90) rfl
      have p6 := Past.box B (j := 6) (v := .int .i64 130) rfl
      have p7 := Past.box B (j := 7) (v := .int .i64 180) rfl
      have q0 := Past.box D (j := 0) (v := .int .i64 1000) rfl
      have q1 := Past.box D (j := 1) (v := .int .i64 930) rfl
      have q2 := Past.box D (j := 2) (v := .int .i64 900) rfl
      have q3 := Past.box D (j := 3) (v := .int .i64 320) rfl
      have q4 := Past.box D (j := 4) (v := .int .i64 280) rfl
      have q5 := Past.box D (j := 5) (v := .int .i64 240) rfl
      have q6 := Past.box D (j := 6) (v := .int .i64 100) rfl
      have q7 := Past.box D (j := 7) (v := .int .i64 30) rfl
      clear B D HB HD
      have e1 : (100 : Int) + rdiv ((30 - 100) * (m - 130)) (180 - 130) = surv m := (blendV_mid (by omega) (by omega)).symm.trans (surv_6 hk0)
      have E := Lib.hid e1
      clear e1
      refine wp_region_past (by kernel_rfl) (by kernel_rfl) ?_
      repeat (go_big_quiet_step ((go_at_call 48; exact Past.same _ (l01Div_any _ _ _ (by omega) (by omega) (by omega) (by omega)))))
      refine wpQuiet_nil ?_
      intro W1 hw'
      obtain ⟨⟨W_, hb1⟩, hw''⟩ := hw'
      subst hw''
      clear p0 p1 p2 p3 p4 p5 p6 p7 q0 q1 q2 q3 q4 q5 q6 q7
      go_wp2
      go_ret
      exact ⟨ret_int (by have h := E.out; have hw := surv_bd h0; simp at h ⊢; rw [h]; unfold wrap64; omega), Bel.trans hbel hb1⟩
end Go.Proofs.Ytdkiahlpajgekaa
