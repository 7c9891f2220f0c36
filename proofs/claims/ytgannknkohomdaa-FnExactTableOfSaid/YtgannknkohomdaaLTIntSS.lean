/- The laws package's helpers for slices of slices of integers (comparison, marks) do what they say. No condition beyond the theorems' own. -/
import Derived.Test.YtgannknkohomdaaLTInts
import Derived.Test.YtgannknkohomdaaRowSS
namespace Go.Proofs.Ytgannknkohomdaa
set_option linter.unusedSimpArgs false
set_option linter.unusedVariables false
open Go.RowKit
set_option maxHeartbeats 400000
theorem tneSS : (55 : TypeId) ≠ 2 := by decide
theorem eqInt64SS_any (v1 v0 : Value) (b1 t1 b0 t0 n : Nat) (C : Nat → List Int) (w : World) (R1 : RowF 55 2 w b1 t1 v1 n C) (R0 : RowF 55 2 w b0 t0 v0 n C) (hn : n ≤ 1048578) (hl : ∀ i, (C i).length ≤ 1048576) :
    Calls Try.prog 14 #[v1, v0] w fun e w' => e = .returned (.bool true) ∧ Below w.heap.size w w' := by
  have H1 := Lib.hid R1
  have H0 := Lib.hid R0
  have HL := Lib.hid hl
  obtain ⟨A1, c1, e1⟩ := R1.form
  obtain ⟨A0, c0, e0⟩ := R0.form
  clear R1 R0 hl
  subst e1
  subst e0
  go_enter Try.func14, Try.ntmps14
  go_wp2_with fail
  go_loopw [5] (fun i wr => ∃ k : Nat, k ≤ n ∧ i = .int .i64 k ∧ Below w.heap.size w wr) (fun i wr => n - (intOf i).toNat)
  case atStart => exact ⟨0, by omega, rfl, Below.refl _ _⟩
  case round =>
    obtain ⟨k, hk, rfl, hbel⟩ := hrel
    by_cases hlt : k < n
    · obtain ⟨bb1, o1, g1, rfl, hb1, hc1, O1, _, _, _⟩ := (H1.out.below hbel).at tneSS hlt
      obtain ⟨bb0, o0, g0, rfl, hb0, hc0, O0, _, _, _⟩ := (H0.out.below hbel).at tneSS hlt
      have q1 := Past.cell hc1 hb1
      have q0 := Past.cell hc0 hb0
      have hcall : Hid (∀ y : Past wr, Calls Try.prog 29 #[.slice (some ⟨g1, 0, none⟩) (C k).length (C k).length, .slice (some ⟨g0, 0, none⟩) (C k).length (C k).length] y.w fun e w' => e = .returned (.bool true) ∧ Below y.w.heap.size y.w w') :=
        fun y => eqInt64S_any _ _ _ _ (C k) y.w (O1.below y.h).argS (O0.below y.h).argS (by have := HL.out k; omega)
      clear hc1 hc0 O1 O0 H1 H0
      go_wp2_with fail
      refine wp_region_past (by kernel_rfl) (by kernel_rfl) ?_
      repeat (go_big_quiet_step ((go_at_call 29; exact Past.call _ (hcall.out _))))
      refine wpQuiet_nil ?_
      intro W1 hw'
      obtain ⟨⟨W_, hb1⟩, hw''⟩ := hw'
      subst hw''
      go_wp2
      go_roundw
      case rel => exact ⟨k + 1, by omega, by go_num, Bel.trans hbel hb1⟩
      case measure => simp [intOf]; omega
    · obtain rfl : k = n := by omega
      go_wp2
      go_ret
      exact ⟨rfl, hbel⟩
theorem markInt64SS_any (v : Value) (b t n : Nat) (C : Nat → List Int) (k : Int) (w : World) (R : RowF 55 2 w b t v n C) (hn : n ≤ 1000) (hl : ∀ i, (C i).length ≤ 1000) (hk0 : 0 ≤ k) (hk1 : k ≤ 100000000) :
    Calls Try.prog 17 #[v, .int .i64 k] w fun e w' => e = .returned (.int .i64 (k + offs C n)) ∧ RowF 55 2 w' b t v n (markF k C) ∧ Below (min b w.heap.size) w w' ∧ w.heap.size ≤ w'.heap.size := by
  have H := Lib.hid R
  have HL := Lib.hid hl
  obtain ⟨A, c, e⟩ := R.form
  clear R hl
  subst e
  go_enter Try.func17, Try.ntmps17
  go_wp2_with fail
  go_loopw [1, 5] (fun kk i wr => ∃ j : Nat, j ≤ n ∧ i = .int .i64 j ∧ kk = .int .i64 (k + offs C j) ∧ RowF 55 2 wr b t (.slice A n c) n (fun m => if m < j then markF k C m else C m) ∧ Below (min b w.heap.size) w wr ∧ w.heap.size ≤ wr.heap.size) (fun _ i wr => n - (intOf i).toNat)
  case atStart => exact ⟨0, by omega, rfl, by simp [offs], H.out.congr fun i _ => by simp, Below.refl _ _, Nat.le_refl _⟩
  case round =>
    obtain ⟨j, hj, rfl, rfl, hR, hbel, hsz⟩ := hrel
    have hof := offs_le HL.out j
    have hof2 : 1000 * j ≤ 1000000 := by omega
    by_cases hlt : j < n
    · have hlj := HL.out j
      obtain ⟨bb, o, g, rfl, hb, hc, O, hg1, hg2, hup⟩ := hR.at tneSS hlt
      simp only [Nat.lt_irrefl, if_false] at hc O hup
      have HUP := Lib.hid hup
      have HO := Lib.hid O
      have hgl := O.arr.1
      clear hR hup O
      go_wp2_with fail
      refine (markInt64S_any _ (C j) (k + offs C j) g _ (HO.out.row (by omega)) (by omega) (by omega) (by omega)).mono ?_
      rintro e w2 ⟨rfl, R2, hg⟩
      have hob : (Value.slice (some ⟨g, 0, none⟩) (C j).length (C j).length).ownBlock = some g := rfl
      rw [hob] at hg
      have hnew := HUP.out w2 _ hg (by
        have h9 := R2
        rw [show (C j).length = (marks (k + (offs C j : Int)) (C j).length).length from (marks_len _ _).symm] at h9
        have h10 : Row intc 1 2 w2 g (.slice (some ⟨g, 0, none⟩) (C j).length (C j).length) (marks (k + (offs C j : Int)) (C j).length) := R2
        exact h10.toOwn) (marks_len _ _)
      have hsz2 := hg.size
      have HN := Lib.hid hnew
      have HG := Lib.hid hg
      clear hnew hg R2 hc hob
      go_wp2
      go_roundw
      case rel =>
        refine ⟨j + 1, by omega, by go_num, by simp only [offs]; go_num, HN.out.congr fun i _ => ?_, hbel.trans ((Below.refl _ _).grown HG.out (by omega) (fun k' hk' => by injection hk' with hk'; omega)), by omega⟩
        by_cases e1 : i = j
        · subst e1; simp [markF]
        · by_cases e2 : i < j
          · simp [e1, e2, show i < j + 1 by omega]
          · simp [e1, e2, show ¬ i < j + 1 by omega]
      case measure => simp [intOf]; omega
    · obtain rfl : j = n := by omega
      have HRR := Lib.hid hR
      clear hR
      go_wp2
      go_ret
      exact ⟨rfl, HRR.out.congr fun i hi => by simp [hi], hbel, hsz⟩
theorem heldInt64SS_any (v : Value) (b t n : Nat) (C : Nat → List Int) (k : Int) (w : World) (R : RowF 55 2 w b t v n (markF k C)) (hn : n ≤ 1000) (hl : ∀ i, (C i).length ≤ 1000) (hk0 : 0 ≤ k) (hk1 : k ≤ 100000000) :
    Calls Try.prog 18 #[v, .int .i64 k] w fun e w' => e = .returned (.int .i64 (k + offs C n)) ∧ Below w.heap.size w w' := by
  have H := Lib.hid R
  have HL := Lib.hid hl
  obtain ⟨A, c, e⟩ := R.form
  clear R hl
  subst e
  go_enter Try.func18, Try.ntmps18
  go_wp2_with fail
  go_loopw [1, 5] (fun kk i wr => ∃ j : Nat, j ≤ n ∧ i = .int .i64 j ∧ kk = .int .i64 (k + offs C j) ∧ Below w.heap.size w wr) (fun _ i wr => n - (intOf i).toNat)
  case atStart => exact ⟨0, by omega, rfl, by simp [offs], Below.refl _ _⟩
  case round =>
    obtain ⟨j, hj, rfl, rfl, hbel⟩ := hrel
    have hof := offs_le HL.out j
    have hof2 : 1000 * j ≤ 1000000 := by omega
    by_cases hlt : j < n
    · have hlj := HL.out j
      obtain ⟨bb, o, g, rfl, hb, hc, O, _, _, _⟩ := (H.out.below hbel).at tneSS hlt
      have hml : (markF k C j).length = (C j).length := marks_len _ _
      rw [hml] at hc
      have HO := Lib.hid O
      clear O H hml
      go_wp2_with fail
      refine (heldInt64S_any _ _ (C j).length (k + offs C j) _ HO.out.argS (by omega) (by omega) (by omega)).mono ?_
      rintro e w2 ⟨rfl, hb2⟩
      clear hc
      have hng : decide (k + (offs C j : Int) + ((C j).length : Int) < 0) = false := by simp; omega
      go_wp2
      go_roundw
      case rel => exact ⟨j + 1, by omega, by go_num, by simp only [offs]; go_num, Bel.trans hbel hb2⟩
      case measure => simp [intOf]; omega
    · obtain rfl : j = n := by omega
      go_wp2
      go_ret
      exact ⟨rfl, hbel⟩
end Go.Proofs.Ytgannknkohomdaa
