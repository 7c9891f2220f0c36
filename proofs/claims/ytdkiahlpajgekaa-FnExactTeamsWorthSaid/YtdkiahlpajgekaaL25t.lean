/- Chapter 25: the chance to survive some minutes: the walks over the tables. -/
import Derived.Test.YtdkiahlpajgekaaL25s
namespace Go.Proofs.Ytdkiahlpajgekaa
set_option linter.unusedSimpArgs false
set_option linter.unusedVariables false
open Go.RowKit
set_option maxHeartbeats 2000000
set_option maxRecDepth 100000
def tT (k : Nat) : Int := if k = 0 then 0 else if k = 1 then 10 else if k = 2 then 15 else if k = 3 then 35 else if k = 4 then 60 else if k = 5 then 90 else if k = 6 then 130 else 180
theorem survivalAt_any (m : Int) (w : World) (h0 : 0 ≤ m) (h1 : m ≤ 100000) : Calls Try.prog 36 #[.int .i64 m] w fun e w' => e = .returned (.int .i64 (surv m)) ∧ Below w.heap.size w w' := by
  go_enter Try.func36, Try.ntmps36
  go_wp2_with fail
  go_loopw [4] (fun i wr => ∃ k : Nat, k ≤ 6 ∧ i = .int .i64 k ∧ Box 60 wr w.heap.size #[.int .i64 0, .int .i64 1000, .int .i64 10, .int .i64 930, .int .i64 15, .int .i64 900, .int .i64 35, .int .i64 320, .int .i64 60, .int .i64 280, .int .i64 90, .int .i64 240, .int .i64 130, .int .i64 100, .int .i64 180, .int .i64 30] ∧ Below w.heap.size w wr ∧ ∀ j, j ≤ k → tT j ≤ m) (fun i wr => 6 - (intOf i).toNat)
  case atStart => exact ⟨0, by omega, rfl, Box.new _ _ _, Bel.alloc (Below.refl _ _) _, fun j hj => by rw [show j = 0 by omega]; exact h0⟩
  case round =>
    obtain ⟨k, hk, rfl, B, hbel, ht⟩ := hrel
    have HT := Lib.hid ht
    have hk0 : tT k ≤ m := ht k (Nat.le_refl _)
    have HB := Lib.hid B
    have c0 : wr.cell? ⟨w.heap.size, 0, none⟩ = some (.int .i64 0) := B.cell 0
    have c1 : wr.cell? ⟨w.heap.size, 1, none⟩ = some (.int .i64 1000) := B.cell 1
    have c2 : wr.cell? ⟨w.heap.size, 2, none⟩ = some (.int .i64 10) := B.cell 2
    have c3 : wr.cell? ⟨w.heap.size, 3, none⟩ = some (.int .i64 930) := B.cell 3
    have c4 : wr.cell? ⟨w.heap.size, 4, none⟩ = some (.int .i64 15) := B.cell 4
    have c5 : wr.cell? ⟨w.heap.size, 5, none⟩ = some (.int .i64 900) := B.cell 5
    have c6 : wr.cell? ⟨w.heap.size, 6, none⟩ = some (.int .i64 35) := B.cell 6
    have c7 : wr.cell? ⟨w.heap.size, 7, none⟩ = some (.int .i64 320) := B.cell 7
    have c8 : wr.cell? ⟨w.heap.size, 8, none⟩ = some (.int .i64 60) := B.cell 8
    have c9 : wr.cell? ⟨w.heap.size, 9, none⟩ = some (.int .i64 280) := B.cell 9
    have c10 : wr.cell? ⟨w.heap.size, 10, none⟩ = some (.int .i64 90) := B.cell 10
    have c11 : wr.cell? ⟨w.heap.size, 11, none⟩ = some (.int .i64 240) := B.cell 11
    have c12 : wr.cell? ⟨w.heap.size, 12, none⟩ = some (.int .i64 130) := B.cell 12
    have c13 : wr.cell? ⟨w.heap.size, 13, none⟩ = some (.int .i64 100) := B.cell 13
    have c14 : wr.cell? ⟨w.heap.size, 14, none⟩ = some (.int .i64 180) := B.cell 14
    have c15 : wr.cell? ⟨w.heap.size, 15, none⟩ = some (.int .i64 30) := B.cell 15
    have z0 : wr.frozen? ⟨w.heap.size, 0, none⟩ = false := B.free 0
    have z1 : wr.frozen? ⟨w.heap.size, 1, none⟩ = false := B.free 1
    have z2 : wr.frozen? ⟨w.heap.size, 2, none⟩ = false := B.free 2
    have z3 : wr.frozen? ⟨w.heap.size, 3, none⟩ = false := B.free 3
    have z4 : wr.frozen? ⟨w.heap.size, 4, none⟩ = false := B.free 4
    have z5 : wr.frozen? ⟨w.heap.size, 5, none⟩ = false := B.free 5
    have z6 : wr.frozen? ⟨w.heap.size, 6, none⟩ = false := B.free 6
    have z7 : wr.frozen? ⟨w.heap.size, 7, none⟩ = false := B.free 7
    have z8 : wr.frozen? ⟨w.heap.size, 8, none⟩ = false := B.free 8
    have z9 : wr.frozen? ⟨w.heap.size, 9, none⟩ = false := B.free 9
    have z10 : wr.frozen? ⟨w.heap.size, 10, none⟩ = false := B.free 10
    have z11 : wr.frozen? ⟨w.heap.size, 11, none⟩ = false := B.free 11
    have z12 : wr.frozen? ⟨w.heap.size, 12, none⟩ = false := B.free 12
    have z13 : wr.frozen? ⟨w.heap.size, 13, none⟩ = false := B.free 13
    have z14 : wr.frozen? ⟨w.heap.size, 14, none⟩ = false := B.free 14
    have z15 : wr.frozen? ⟨w.heap.size, 15, none⟩ = false := B.free 15
    clear z0 z1 z2 z3 z4 z5 z6 z7 z8 z9 z10 z11 z12 z13 z14 z15
    clear B ht
    rcases (show k = 0 ∨ k = 1 ∨ k = 2 ∨ k = 3 ∨ k = 4 ∨ k = 5 ∨ k = 6 by omega) with rfl | rfl | rfl | rfl | rfl | rfl | rfl
    · replace hk0 : (0 : Int) ≤ m := hk0
      -- 1 k+1, 2 next value, 3.. x0 y0 x1 y1, law
      by_cases hq : (10 : Int) ≤ m
      · go_wp2
        go_roundw
        case rel => exact ⟨1, by omega, by go_num, HB.out, hbel, fun j hj => by rcases (show j < 1 ∨ j = 1 by omega) with h | h; (exact HT.out j (by omega)); (subst h; exact hq)⟩
        case measure => simp [intOf]
      · have hq2 : decide ((10 : Int) ≤ m) = false := decide_eq_false hq
        go_wp2_with fail
        -- 1 x0 y0 x1 y1, 5 the law
        clear c0 c1 c2 c3 c4 c5 c6 c7 c8 c9 c10 c11 c12 c13 c14 c15
        have B := HB.out
        have p0 := Past.box B (j := 0) (v := .int .i64 0) rfl
        have p1 := Past.box B (j := 1) (v := .int .i64 1000) rfl
        have p2 := Past.box B (j := 2) (v := .int .i64 10) rfl
        have p3 := Past.box B (j := 3) (v := .int .i64 930) rfl
        have p4 := Past.box B (j := 4) (v := .int .i64 15) rfl
        have p5 := Past.box B (j := 5) (v := .int .i64 900) rfl
        have p6 := Past.box B (j := 6) (v := .int .i64 35) rfl
        have p7 := Past.box B (j := 7) (v := .int .i64 320) rfl
        have p8 := Past.box B (j := 8) (v := .int .i64 60) rfl
        have p9 := Past.box B (j := 9) (v := .int .i64 280) rfl
        have p10 := Past.box B (j := 10) (v := .int .i64 90) rfl
        have p11 := Past.box B (j := 11) (v := .int .i64 240) rfl
        have p12 := Past.box B (j := 12) (v := .int .i64 130) rfl
        have p13 := Past.box B (j := 13) (v := .int .i64 100) rfl
        have p14 := Past.box B (j := 14) (v := .int .i64 180) rfl
        have p15 := Past.box B (j := 15) (v := .int .i64 30) rfl
        clear B HB
        refine wp_region_past (by kernel_rfl) (by kernel_rfl) ?_
        repeat (go_big_quiet_step ((go_at_call 43; exact Past.drew _ (blend_any 0 1000 10 930 m _ (by omega) (by omega) (by omega) (by omega) (by omega) (by omega) (by omega) (by omega) (by omega)))))
        refine wpQuiet_nil ?_
        intro W1 hw'
        obtain ⟨⟨W_, hb1⟩, hw''⟩ := hw'
        subst hw''
        clear p0 p1 p2 p3 p4 p5 p6 p7 p8 p9 p10 p11 p12 p13 p14 p15
        go_wp2
        go_ret
        exact ⟨ret_int (surv_0 (by omega)), Bel.trans hbel hb1⟩
    · replace hk0 : (10 : Int) ≤ m := hk0
      -- 1 k+1, 2 next value, 3.. x0 y0 x1 y1, law
      by_cases hq : (15 : Int) ≤ m
      · go_wp2
        go_roundw
        case rel => exact ⟨2, by omega, by go_num, HB.out, hbel, fun j hj => by rcases (show j < 2 ∨ j = 2 by omega) with h | h; (exact HT.out j (by omega)); (subst h; exact hq)⟩
        case measure => simp [intOf]
      · have hq2 : decide ((15 : Int) ≤ m) = false := decide_eq_false hq
        go_wp2_with fail
        -- 1 x0 y0 x1 y1, 5 the law
        clear c0 c1 c2 c3 c4 c5 c6 c7 c8 c9 c10 c11 c12 c13 c14 c15
        have B := HB.out
        have p0 := Past.box B (j := 0) (v := .int .i64 0) rfl
        have p1 := Past.box B (j := 1) (v := .int .i64 1000) rfl
        have p2 := Past.box B (j := 2) (v := .int .i64 10) rfl
        have p3 := Past.box B (j := 3) (v := .int .i64 930) rfl
        have p4 := Past.box B (j := 4) (v := .int .i64 15) rfl
        have p5 := Past.box B (j := 5) (v := .int .i64 900) rfl
        have p6 := Past.box B (j := 6) (v := .int .i64 35) rfl
        have p7 := Past.box B (j := 7) (v := .int .i64 320) rfl
        have p8 := Past.box B (j := 8) (v := .int .i64 60) rfl
        have p9 := Past.box B (j := 9) (v := .int .i64 280) rfl
        have p10 := Past.box B (j := 10) (v := .int .i64 90) rfl
        have p11 := Past.box B (j := 11) (v := .int .i64 240) rfl
        have p12 := Past.box B (j := 12) (v := .int .i64 130) rfl
        have p13 := Past.box B (j := 13) (v := .int .i64 100) rfl
        have p14 := Past.box B (j := 14) (v := .int .i64 180) rfl
        have p15 := Past.box B (j := 15) (v := .int .i64 30) rfl
        clear B HB
        refine wp_region_past (by kernel_rfl) (by kernel_rfl) ?_
        repeat (go_big_quiet_step ((go_at_call 43; exact Past.drew _ (blend_any 10 930 15 900 m _ (by omega) (by omega) (by omega) (by omega) (by omega) (by omega) (by omega) (by omega) (by omega)))))
        refine wpQuiet_nil ?_
        intro W1 hw'
        obtain ⟨⟨W_, hb1⟩, hw''⟩ := hw'
        subst hw''
        clear p0 p1 p2 p3 p4 p5 p6 p7 p8 p9 p10 p11 p12 p13 p14 p15
        go_wp2
        go_ret
        exact ⟨ret_int (surv_1 hk0 (by omega)), Bel.trans hbel hb1⟩
    · replace hk0 : (15 : Int) ≤ m := hk0
      -- 1 k+1, 2 next value, 3.. x0 y0 x1 y1, law
      by_cases hq : (35 : Int) ≤ m
      · go_wp2
        go_roundw
        case rel => exact ⟨3, by omega, by go_num, HB.out, hbel, fun j hj => by rcases (show j < 3 ∨ j = 3 by omega) with h | h; (exact HT.out j (by omega)); (subst h; exact hq)⟩
        case measure => simp [intOf]
      · have hq2 : decide ((35 : Int) ≤ m) = false := decide_eq_false hq
        go_wp2_with fail
        -- 1 x0 y0 x1 y1, 5 the law
        clear c0 c1 c2 c3 c4 c5 c6 c7 c8 c9 c10 c11 c12 c13 c14 c15
        have B := HB.out
        have p0 := Past.box B (j := 0) (v := .int .i64 0) rfl
        have p1 := Past.box B (j := 1) (v := .int .i64 1000) rfl
        have p2 := Past.box B (j := 2) (v := .int .i64 10) rfl
        have p3 := Past.box B (j := 3) (v := .int .i64 930) rfl
        have p4 := Past.box B (j := 4) (v := .int .i64 15) rfl
        have p5 := Past.box B (j := 5) (v := .int .i64 900) rfl
        have p6 := Past.box B (j := 6) (v := .int .i64 35) rfl
        have p7 := Past.box B (j := 7) (v := .int .i64 320) rfl
        have p8 := Past.box B (j := 8) (v := .int .i64 60) rfl
        have p9 := Past.box B (j := 9) (v := .int .i64 280) rfl
        have p10 := Past.box B (j := 10) (v := .int .i64 90) rfl
        have p11 := Past.box B (j := 11) (v := .int .i64 240) rfl
        have p12 := Past.box B (j := 12) (v := .int .i64 130) rfl
        have p13 := Past.box B (j := 13) (v := .int .i64 100) rfl
        have p14 := Past.box B (j := 14) (v := .int .i64 180) rfl
        have p15 := Past.box B (j := 15) (v := .int .i64 30) rfl
        clear B HB
        refine wp_region_past (by kernel_rfl) (by kernel_rfl) ?_
        repeat (go_big_quiet_step ((go_at_call 43; exact Past.drew _ (blend_any 15 900 35 320 m _ (by omega) (by omega) (by omega) (by omega) (by omega) (by omega) (by omega) (by omega) (by omega)))))
        refine wpQuiet_nil ?_
        intro W1 hw'
        obtain ⟨⟨W_, hb1⟩, hw''⟩ := hw'
        subst hw''
        clear p0 p1 p2 p3 p4 p5 p6 p7 p8 p9 p10 p11 p12 p13 p14 p15
        go_wp2
        go_ret
        exact ⟨ret_int (surv_2 hk0 (by omega)), Bel.trans hbel hb1⟩
    · replace hk0 : (35 : Int) ≤ m := hk0
      -- 1 k+1, 2 next value, 3.. x0 y0 x1 y1, law
      by_cases hq : (60 : Int) ≤ m
      · go_wp2
        go_roundw
        case rel => exact ⟨4, by omega, by go_num, HB.out, hbel, fun j hj => by rcases (show j < 4 ∨ j = 4 by omega) with h | h; (exact HT.out j (by omega)); (subst h; exact hq)⟩
        case measure => simp [intOf]
      · have hq2 : decide ((60 : Int) ≤ m) = false := decide_eq_false hq
        go_wp2_with fail
        -- 1 x0 y0 x1 y1, 5 the law
        clear c0 c1 c2 c3 c4 c5 c6 c7 c8 c9 c10 c11 c12 c13 c14 c15
        have B := HB.out
        have p0 := Past.box B (j := 0) (v := .int .i64 0) rfl
        have p1 := Past.box B (j := 1) (v := .int .i64 1000) rfl
        have p2 := Past.box B (j := 2) (v := .int .i64 10) rfl
        have p3 := Past.box B (j := 3) (v := .int .i64 930) rfl
        have p4 := Past.box B (j := 4) (v := .int .i64 15) rfl
        have p5 := Past.box B (j := 5) (v := .int .i64 900) rfl
        have p6 := Past.box B (j := 6) (v := .int .i64 35) rfl
        have p7 := Past.box B (j := 7) (v := .int .i64 320) rfl
        have p8 := Past.box B (j := 8) (v := .int .i64 60) rfl
        have p9 := Past.box B (j := 9) (v := .int .i64 280) rfl
        have p10 := Past.box B (j := 10) (v := .int .i64 90) rfl
        have p11 := Past.box B (j := 11) (v := .int .i64 240) rfl
        have p12 := Past.box B (j := 12) (v := .int .i64 130) rfl
        have p13 := Past.box B (j := 13) (v := .int .i64 100) rfl
        have p14 := Past.box B (j := 14) (v := .int .i64 180) rfl
        have p15 := Past.box B (j := 15) (v := .int .i64 30) rfl
        clear B HB
        refine wp_region_past (by kernel_rfl) (by kernel_rfl) ?_
        repeat (go_big_quiet_step ((go_at_call 43; exact Past.drew _ (blend_any 35 320 60 280 m _ (by omega) (by omega) (by omega) (by omega) (by omega) (by omega) (by omega) (by omega) (by omega)))))
        refine wpQuiet_nil ?_
        intro W1 hw'
        obtain ⟨⟨W_, hb1⟩, hw''⟩ := hw'
        subst hw''
        clear p0 p1 p2 p3 p4 p5 p6 p7 p8 p9 p10 p11 p12 p13 p14 p15
        go_wp2
        go_ret
        exact ⟨ret_int (surv_3 hk0 (by omega)), Bel.trans hbel hb1⟩
    · replace hk0 : (60 : Int) ≤ m := hk0
      -- 1 k+1, 2 next value, 3.. x0 y0 x1 y1, law
      by_cases hq : (90 : Int) ≤ m
      · go_wp2
        go_roundw
        case rel => exact ⟨5, by omega, by go_num, HB.out, hbel, fun j hj => by rcases (show j < 5 ∨ j = 5 by omega) with h | h; (exact HT.out j (by omega)); (subst h; exact hq)⟩
        case measure => simp [intOf]
      · have hq2 : decide ((90 : Int) ≤ m) = false := decide_eq_false hq
        go_wp2_with fail
        -- 1 x0 y0 x1 y1, 5 the law
        clear c0 c1 c2 c3 c4 c5 c6 c7 c8 c9 c10 c11 c12 c13 c14 c15
        have B := HB.out
        have p0 := Past.box B (j := 0) (v := .int .i64 0) rfl
        have p1 := Past.box B (j := 1) (v := .int .i64 1000) rfl
        have p2 := Past.box B (j := 2) (v := .int .i64 10) rfl
        have p3 := Past.box B (j := 3) (v := .int .i64 930) rfl
        have p4 := Past.box B (j := 4) (v := .int .i64 15) rfl
        have p5 := Past.box B (j := 5) (v := .int .i64 900) rfl
        have p6 := Past.box B (j := 6) (v := .int .i64 35) rfl
        have p7 := Past.box B (j := 7) (v := .int .i64 320) rfl
        have p8 := Past.box B (j := 8) (v := .int .i64 60) rfl
        have p9 := Past.box B (j := 9) (v := .int .i64 280) rfl
        have p10 := Past.box B (j := 10) (v := .int .i64 90) rfl
        have p11 := Past.box B (j := 11) (v := .int .i64 240) rfl
        have p12 := Past.box B (j := 12) (v := .int .i64 130) rfl
        have p13 := Past.box B (j := 13) (v := .int .i64 100) rfl
        have p14 := Past.box B (j := 14) (v := .int .i64 180) rfl
        have p15 := Past.box B (j := 15) (v := .int .i64 30) rfl
        clear B HB
        refine wp_region_past (by kernel_rfl) (by kernel_rfl) ?_
        repeat (go_big_quiet_step ((go_at_call 43; exact Past.drew _ (blend_any 60 280 90 240 m _ (by omega) (by omega) (by omega) (by omega) (by omega) (by omega) (by omega) (by omega) (by omega)))))
        refine wpQuiet_nil ?_
        intro W1 hw'
        obtain ⟨⟨W_, hb1⟩, hw''⟩ := hw'
        subst hw''
        clear p0 p1 p2 p3 p4 p5 p6 p7 p8 p9 p10 p11 p12 p13 p14 p15
        go_wp2
        go_ret
        exact ⟨ret_int (surv_4 hk0 (by omega)), Bel.trans hbel hb1⟩
    · replace hk0 : (90 : Int) ≤ m := hk0
      -- 1 k+1, 2 next value, 3.. x0 y0 x1 y1, law
      by_cases hq : (130 : Int) ≤ m
      · go_wp2
        go_roundw
        case rel => exact ⟨6, by omega, by go_num, HB.out, hbel, fun j hj => by rcases (show j < 6 ∨ j = 6 by omega) with h | h; (exact HT.out j (by omega)); (subst h; exact hq)⟩
        case measure => simp [intOf]
      · have hq2 : decide ((130 : Int) ≤ m) = false := decide_eq_false hq
        go_wp2_with fail
        -- 1 x0 y0 x1 y1, 5 the law
        clear c0 c1 c2 c3 c4 c5 c6 c7 c8 c9 c10 c11 c12 c13 c14 c15
        have B := HB.out
        have p0 := Past.box B (j := 0) (v := .int .i64 0) rfl
        have p1 := Past.box B (j := 1) (v := .int .i64 1000) rfl
        have p2 := Past.box B (j := 2) (v := .int .i64 10) rfl
        have p3 := Past.box B (j := 3) (v := .int .i64 930) rfl
        have p4 := Past.box B (j := 4) (v := .int .i64 15) rfl
        have p5 := Past.box B (j := 5) (v := .int .i64 900) rfl
        have p6 := Past.box B (j := 6) (v := .int .i64 35) rfl
        have p7 := Past.box B (j := 7) (v := .int .i64 320) rfl
        have p8 := Past.box B (j := 8) (v := .int .i64 60) rfl
        have p9 := Past.box B (j := 9) (v := .int .i64 280) rfl
        have p10 := Past.box B (j := 10) (v := .int .i64 90) rfl
        have p11 := Past.box B (j := 11) (v := .int .i64 240) rfl
        have p12 := Past.box B (j := 12) (v := .int .i64 130) rfl
        have p13 := Past.box B (j := 13) (v := .int .i64 100) rfl
        have p14 := Past.box B (j := 14) (v := .int .i64 180) rfl
        have p15 := Past.box B (j := 15) (v := .int .i64 30) rfl
        clear B HB
        refine wp_region_past (by kernel_rfl) (by kernel_rfl) ?_
        repeat (go_big_quiet_step ((go_at_call 43; exact Past.drew _ (blend_any 90 240 130 100 m _ (by omega) (by omega) (by omega) (by omega) (by omega) (by omega) (by omega) (by omega) (by omega)))))
        refine wpQuiet_nil ?_
        intro W1 hw'
        obtain ⟨⟨W_, hb1⟩, hw''⟩ := hw'
        subst hw''
        clear p0 p1 p2 p3 p4 p5 p6 p7 p8 p9 p10 p11 p12 p13 p14 p15
        go_wp2
        go_ret
        exact ⟨ret_int (surv_5 hk0 (by omega)), Bel.trans hbel hb1⟩
    · replace hk0 : (130 : Int) ≤ m := hk0
      go_wp2_with fail
      -- 1 x0 y0 x1 y1, 5 the law
      clear c0 c1 c2 c3 c4 c5 c6 c7 c8 c9 c10 c11 c12 c13 c14 c15
      have B := HB.out
      have p0 := Past.box B (j := 0) (v := .int .i64 0) rfl
      have p1 := Past.box B (j := 1) (v := .int .i64 1000) rfl
      have p2 := Past.box B (j := 2) (v := .int .i64 10) rfl
      have p3 := Past.box B (j := 3) (v := .int .i64 930) rfl
      have p4 := Past.box B (j := 4) (v := .int .i64 15) rfl
      have p5 := Past.box B (j := 5) (v := .int .i64 900) rfl
      have p6 := Past.box B (j := 6) (v := .int .i64 35) rfl
      have p7 := Past.box B (j := 7) (v := .int .i64 320) rfl
      have p8 := Past.box B (j := 8) (v := .int .i64 60) rfl
      have p9 := Past.box B (j := 9) (v := .int .i64 280) rfl
      have p10 := Past.box B (j := 10) (v := .int .i64 90) rfl
      have p11 := Past.box B (j := 11) (v := .int .i64 240) rfl
      have p12 := Past.box B (j := 12) (v := .int .i64 130) rfl
      have p13 := Past.box B (j := 13) (v := .int .i64 100) rfl
      have p14 := Past.box B (j := 14) (v := .int .i64 180) rfl
      have p15 := Past.box B (j := 15) (v := .int .i64 30) rfl
      clear B HB
      refine wp_region_past (by kernel_rfl) (by kernel_rfl) ?_
      repeat (go_big_quiet_step ((go_at_call 43; exact Past.drew _ (blend_any 130 100 180 30 m _ (by omega) (by omega) (by omega) (by omega) (by omega) (by omega) (by omega) (by omega) (by omega)))))
      refine wpQuiet_nil ?_
      intro W1 hw'
      obtain ⟨⟨W_, hb1⟩, hw''⟩ := hw'
      subst hw''
      clear p0 p1 p2 p3 p4 p5 p6 p7 p8 p9 p10 p11 p12 p13 p14 p15
      go_wp2
      go_ret
      exact ⟨ret_int (surv_6 hk0), Bel.trans hbel hb1⟩
end Go.Proofs.Ytdkiahlpajgekaa
