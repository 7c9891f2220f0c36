/- Chapter 8: how much tests agree: the walks. -/
import Derived.Test.YtlicpgmcnebpmaaL08c
namespace Go.Proofs.Ytlicpgmcnebpmaa
set_option linter.unusedSimpArgs false
set_option linter.unusedVariables false
open Go.RowKit
set_option maxHeartbeats 400000
set_option maxRecDepth 100000
def mxf (a b c d e : Int) (k : Nat) : Int := if k = 1 then a else if k = 2 then max a b else if k = 3 then max (max a b) c else if k = 4 then max (max (max a b) c) d else max (max (max (max a b) c) d) e
theorem mx1 (a b c d e : Int) : mxf a b c d e 1 = a := rfl
theorem mx2 (a b c d e : Int) : mxf a b c d e 2 = max a b := rfl
theorem mx3 (a b c d e : Int) : mxf a b c d e 3 = max (max a b) c := rfl
theorem mx4 (a b c d e : Int) : mxf a b c d e 4 = max (max (max a b) c) d := rfl
theorem mx5 (a b c d e : Int) : mxf a b c d e 5 = max (max (max (max a b) c) d) e := rfl
theorem max5_any (a b c d e : Int) (g cc : Nat) (w : World) (h0 : w.cell? ⟨g, 0, none⟩ = some (.int .i64 a)) (h1 : w.cell? ⟨g, 1, none⟩ = some (.int .i64 b)) (h2 : w.cell? ⟨g, 2, none⟩ = some (.int .i64 c)) (h3 : w.cell? ⟨g, 3, none⟩ = some (.int .i64 d)) (h4 : w.cell? ⟨g, 4, none⟩ = some (.int .i64 e)) :
    Calls Try.prog 36 #[.slice (some ⟨g, 0, none⟩) 5 cc] w fun r w' => r = .returned (.int .i64 (max (max (max (max a b) c) d) e)) ∧ w = w' := by
  go_enter Try.func36, Try.ntmps36
  go_wp2_with fail
  go_loop [3, 4] (fun m i => ∃ k : Nat, 1 ≤ k ∧ k ≤ 5 ∧ i = .int .i64 k ∧ m = .int .i64 (mxf a b c d e k)) (fun _ i => 5 - (intOf i).toNat)
  case atStart => exact ⟨1, by omega, by omega, rfl, rfl⟩
  case round =>
    obtain ⟨k, hk1, hk, rfl, rfl⟩ := hrel
    rcases (show k = 1 ∨ k = 2 ∨ k = 3 ∨ k = 4 ∨ k = 5 by omega) with rfl | rfl | rfl | rfl | rfl
    · skip
      -- 1 k, 2 next
      obtain ⟨m, hm⟩ : ∃ m, mxf a b c d e 1 = m := ⟨_, rfl⟩
      rw [mx1] at hm
      rw [mx1, hm]
      have hstep := mx2 a b c d e
      rw [hm] at hstep
      have HM := Lib.hid hstep
      clear hstep hm
      go_wp2
      all_goals
        go_round
        case rel => exact ⟨2, by omega, by omega, by go_num, vint (by rw [HM.out]; omega)⟩
        case measure => simp [intOf]
    · skip
      -- 1 k, 2 next
      obtain ⟨m, hm⟩ : ∃ m, mxf a b c d e 2 = m := ⟨_, rfl⟩
      rw [mx2] at hm
      rw [mx2, hm]
      have hstep := mx3 a b c d e
      rw [hm] at hstep
      have HM := Lib.hid hstep
      clear hstep hm
      go_wp2
      all_goals
        go_round
        case rel => exact ⟨3, by omega, by omega, by go_num, vint (by rw [HM.out]; omega)⟩
        case measure => simp [intOf]
    · skip
      -- 1 k, 2 next
      obtain ⟨m, hm⟩ : ∃ m, mxf a b c d e 3 = m := ⟨_, rfl⟩
      rw [mx3] at hm
      rw [mx3, hm]
      have hstep := mx4 a b c d e
      rw [hm] at hstep
      have HM := Lib.hid hstep
      clear hstep hm
      go_wp2
      all_goals
        go_round
        case rel => exact ⟨4, by omega, by omega, by go_num, vint (by rw [HM.out]; omega)⟩
        case measure => simp [intOf]
    · skip
      -- 1 k, 2 next
      obtain ⟨m, hm⟩ : ∃ m, mxf a b c d e 4 = m := ⟨_, rfl⟩
      rw [mx4] at hm
      rw [mx4, hm]
      have hstep := mx5 a b c d e
      rw [hm] at hstep
      have HM := Lib.hid hstep
      clear hstep hm
      go_wp2
      all_goals
        go_round
        case rel => exact ⟨5, by omega, by omega, by go_num, vint (by rw [HM.out]; omega)⟩
        case measure => simp [intOf]
    · go_wp2
      go_ret
      exact ⟨ret_int (by rw [mx5]; omega), rfl⟩
def cnts (xs : List STest) (k : Nat) : Array Value := #[.int .i64 (cntC xs k 0), .int .i64 (cntC xs k 1), .int .i64 (cntC xs k 2), .int .i64 (cntC xs k 3), .int .i64 (cntC xs k 4)]
theorem cnts_0 (xs : List STest) : cnts xs 0 = #[.int .i64 0, .int .i64 0, .int .i64 0, .int .i64 0, .int .i64 0] := rfl
theorem cnts_at {xs : List STest} {k c : Nat} (hc : c ≤ 4) : (cnts xs k)[c]? = some (.int .i64 (cntC xs k c)) := by
  rcases (show c = 0 ∨ c = 1 ∨ c = 2 ∨ c = 3 ∨ c = 4 by omega) with rfl | rfl | rfl | rfl | rfl <;> rfl
theorem cnts_set {xs : List STest} {k c : Nat} (h : k < xs.length) (hc : cls xs[k] = (c : Int)) (hc4 : c ≤ 4) : (cnts xs k).setIfInBounds c (.int .i64 (cntC xs k c + 1)) = cnts xs (k + 1) := by
  have s0 := cntC_step h 0
  have s1 := cntC_step h 1
  have s2 := cntC_step h 2
  have s3 := cntC_step h 3
  have s4 := cntC_step h 4
  rw [hc] at s0 s1 s2 s3 s4
  rcases (show c = 0 ∨ c = 1 ∨ c = 2 ∨ c = 3 ∨ c = 4 by omega) with rfl | rfl | rfl | rfl | rfl
  all_goals
    simp at s0 s1 s2 s3 s4
    simp [cnts, s0, s1, s2, s3, s4]
theorem mostC_bd (xs : List STest) (k : Nat) : 0 ≤ mostC xs k ∧ mostC xs k ≤ k := by
  have h0 := cntC_bd xs k 0
  have h1 := cntC_bd xs k 1
  have h2 := cntC_bd xs k 2
  have h3 := cntC_bd xs k 3
  have h4 := cntC_bd xs k 4
  unfold mostC; omega
theorem AgreeOf_any (xs : List STest) (b c : Nat) (w : World) (A : Arr STest.cells 5 w b xs) (hn : xs.length ≤ 1048576) :
    Calls Try.prog 11 #[.slice (some ⟨b, 0, none⟩) xs.length c] w fun e w' => e = .returned (.tuple #[.int .i64 (agRes xs).1, .int .i64 (agRes xs).2]) ∧ Below w.heap.size w w' := by
  have HA := Lib.hid A
  clear A
  cases hv : vlTest xs
  · have HV := Lib.hid hv
    clear hv
    go_enter Try.func11, Try.ntmps11
    go_wp2_with (go_at_call 33; refine (Calls.boolIs HV.out (ValidTests_any xs b c _ HA.out hn)).mono ?_; rintro e w1 ⟨rfl, hb1⟩)
    go_ret2
    exact ⟨by rw [agRes_1 HV.out]; rfl, hb1⟩
  have hlen := vlTest_len hv
  have HV := Lib.hid hv
  clear hv
  by_cases h0 : xs.length = 0
  · have hz : ((xs.length : Int) == 0) = true := beq_iff_eq.mpr (by omega)
    have H0 := Lib.hid h0
    clear h0
    go_enter Try.func11, Try.ntmps11
    go_wp2_with (go_at_call 33; refine (Calls.boolIs HV.out (ValidTests_any xs b c _ HA.out hn)).mono ?_; rintro e w1 ⟨rfl, hb1⟩)
    go_ret2
    exact ⟨by rw [agRes_3 HV.out H0.out]; rfl, hb1⟩
  have hz : ((xs.length : Int) == 0) = false := beq_eq_false_iff_ne.mpr (by omega)
  have hpos : 0 < xs.length := by omega
  have H0 := Lib.hid h0
  clear h0
  go_enter Try.func11, Try.ntmps11
  go_wp2_with fail
  refine (Calls.boolIs HV.out (ValidTests_any xs b c _ HA.out hn)).mono ?_
  rintro e w1 ⟨rfl, hb1⟩
  go_wp2_with fail
  refine wp_box_out ?_
  intro W hbw B
  rw [← cnts_0 xs] at B
  have hbW := Bel.trans hb1 hbw
  have hg : w.heap.size ≤ w1.heap.size := hb1.size
  obtain ⟨g, hgg⟩ : ∃ g, w1.heap.size = g := ⟨_, rfl⟩
  rw [hgg] at B hg
  rw [hgg]
  have HB := Lib.hid B
  clear B hbw hgg hb1
  go_loopw [17] (fun i wr => ∃ k : Nat, k ≤ xs.length ∧ i = .int .i64 k ∧ Box 52 wr g (cnts xs k) ∧ Below w.heap.size w wr) (fun i wr => xs.length - (intOf i).toNat)
  case atStart => exact ⟨0, by omega, rfl, HB.out, hbW⟩
  case round =>
    obtain ⟨k, hk, rfl, hbox, hbel⟩ := hrel
    have HBX := Lib.hid hbox
    clear hbox
    by_cases hlt : k < xs.length
    · obtain ⟨e0, e1, e2, e3, e4⟩ := STest.elem (HA.out.below hbel) hlt
      have hcb := cls_bd xs[k]
      obtain ⟨q, hq⟩ : ∃ q : Nat, cls xs[k] = (q : Int) := ⟨(cls xs[k]).toNat, by omega⟩
      have hq4 : q ≤ 4 := by omega
      have hcd := cntC_bd xs k q
      obtain ⟨v, hv⟩ : ∃ v, cntC xs k q = v := ⟨_, rfl⟩
      have hset := cnts_set hlt hq hq4
      have hat := cnts_at (xs := xs) (k := k) hq4
      rw [hv] at hcd hset hat
      have HQ := Lib.hid hq
      have HSET := Lib.hid hset
      have HOK := Lib.hid (vlTest_ok HV.out k hlt)
      clear hq hset hcb hv
      go_wp2_with fail
      refine calls_box_out ?_
      intro W2 hb2 B2
      refine (Calls.intIs HQ.out (class_any xs[k] _ HOK.out)).mono ?_
      rintro e w3 ⟨rfl, hb3⟩
      have hbel := Bel.trans (Bel.trans hbel hb2) hb3
      have HBX := Lib.hid ((HBX.out.below hb2).below hb3)
      have c0 : w3.cell? ⟨g, q, none⟩ = some (.int .i64 v) := (HBX.out.cell q).trans hat
      have z0 : w3.frozen? ⟨g, q, none⟩ = false := HBX.out.free q
      clear B2 e0 e1 e2 e3 e4 hb2 hb3 hat
      go_wp2
      go_roundw
      case rel => exact ⟨k + 1, by omega, by go_num, by rw [← HSET.out]; exact HBX.out.set q _, Bel.setCell hbel hg _⟩
      case measure => simp [intOf]; omega
    · obtain rfl : k = xs.length := by omega
      have c0 := HBX.out.cell 0
      have c1 := HBX.out.cell 1
      have c2 := HBX.out.cell 2
      have c3 := HBX.out.cell 3
      have c4 := HBX.out.cell 4
      rw [cnts_at (by omega)] at c0 c1 c2 c3 c4
      have hmb := mostC_bd xs xs.length
      obtain ⟨m, hm⟩ : ∃ m, mostC xs xs.length = m := ⟨_, rfl⟩
      have hag := agRes_0 HV.out H0.out
      rw [hm] at hmb hag
      have HM := Lib.hid (show max (max (max (max (cntC xs xs.length 0) (cntC xs xs.length 1)) (cntC xs xs.length 2)) (cntC xs xs.length 3)) (cntC xs xs.length 4) = m from hm)
      have HAG := Lib.hid hag
      clear hag hm HBX
      go_wp2_with fail
      refine (Calls.intIs HM.out (max5_any _ _ _ _ _ g _ _ c0 c1 c2 c3 c4)).mono ?_
      rintro e w4 ⟨rfl, rfl⟩
      clear c0 c1 c2 c3 c4
      go_wp2_with (go_at_call 35; refine (divRound_any _ _ _ (by omega) (by omega) (by omega) (by omega)).mono ?_; rintro e w' ⟨rfl, nn, rfl⟩)
      go_ret2
      exact ⟨by rw [HAG.out]; rfl, Bel.drewN hbel _⟩
theorem sAgreeOf_any (xs : List STest) (b c : Nat) (w : World) (A : Arr STest.cells 5 w b xs) (hn : xs.length ≤ 1048576) :
    Calls Try.prog 9 #[.slice (some ⟨b, 0, none⟩) xs.length c] w fun e w' => e = .returned (.tuple #[.int .i64 (agRes xs).1, .int .i64 (agRes xs).2]) ∧ Below w.heap.size w w' := by
  have HA := Lib.hid A
  clear A
  cases hv : vlTest xs
  · have HV := Lib.hid hv
    clear hv
    go_enter Try.func9, Try.ntmps9
    go_wp2_with (go_at_call 28; refine (Calls.boolIs HV.out (l08Ok_any xs b c _ HA.out hn)).mono ?_; rintro e w1 ⟨rfl, hb1⟩)
    go_ret2
    exact ⟨by rw [agRes_1 HV.out]; rfl, hb1⟩
  have hlen := vlTest_len hv
  have HV := Lib.hid hv
  clear hv
  by_cases h0 : xs.length = 0
  · have hz : ((xs.length : Int) == 0) = true := beq_iff_eq.mpr (by omega)
    have H0 := Lib.hid h0
    clear h0
    go_enter Try.func9, Try.ntmps9
    go_wp2_with (go_at_call 28; refine (Calls.boolIs HV.out (l08Ok_any xs b c _ HA.out hn)).mono ?_; rintro e w1 ⟨rfl, hb1⟩)
    go_ret2
    exact ⟨by rw [agRes_3 HV.out H0.out]; rfl, hb1⟩
  have hz : ((xs.length : Int) == 0) = false := beq_eq_false_iff_ne.mpr (by omega)
  have hpos : 0 < xs.length := by omega
  have H0 := Lib.hid h0
  clear h0
  go_enter Try.func9, Try.ntmps9
  go_wp2_with fail
  refine (Calls.boolIs HV.out (l08Ok_any xs b c _ HA.out hn)).mono ?_
  rintro e w1 ⟨rfl, hb1⟩
  go_wp2_with fail
  refine wp_box_out ?_
  intro W hbw B
  rw [← cnts_0 xs] at B
  have hbW := Bel.trans hb1 hbw
  have hg : w.heap.size ≤ w1.heap.size := hb1.size
  obtain ⟨g, hgg⟩ : ∃ g, w1.heap.size = g := ⟨_, rfl⟩
  rw [hgg] at B hg
  rw [hgg]
  have HB := Lib.hid B
  clear B hbw hgg hb1
  go_loopw [5, 6] (fun m i wr => ∃ k : Nat, k ≤ xs.length ∧ i = .int .i64 k ∧ m = .int .i64 (mostC xs k) ∧ Box 2 wr g (cnts xs k) ∧ Below w.heap.size w wr) (fun _ i wr => xs.length - (intOf i).toNat)
  case atStart => exact ⟨0, by omega, rfl, rfl, HB.out, hbW⟩
  case round =>
    obtain ⟨k, hk, rfl, rfl, hbox, hbel⟩ := hrel
    have HBX := Lib.hid hbox
    have hmb := mostC_bd xs k
    clear hbox
    by_cases hlt : k < xs.length
    · obtain ⟨e0, e1, e2, e3, e4⟩ := STest.elem (HA.out.below hbel) hlt
      have hcb := cls_bd xs[k]
      obtain ⟨q, hq⟩ : ∃ q : Nat, cls xs[k] = (q : Int) := ⟨(cls xs[k]).toNat, by omega⟩
      have hq4 : q ≤ 4 := by omega
      have hcd := cntC_bd xs k q
      have hst := cntC_step hlt q
      have hms := mostC_step hlt hq
      rw [hq, if_pos rfl] at hst
      obtain ⟨v, hv⟩ : ∃ v, cntC xs k q = v := ⟨_, rfl⟩
      have hset := cnts_set hlt hq hq4
      have hat := cnts_at (xs := xs) (k := k) hq4
      rw [hv] at hcd hset hat hst
      rw [hst] at hms
      obtain ⟨m, hm⟩ : ∃ m, mostC xs k = m := ⟨_, rfl⟩
      rw [hm] at hms hmb ⊢
      have HMS := Lib.hid hms
      have HQ := Lib.hid hq
      have HSET := Lib.hid hset
      have HOK := Lib.hid (vlTest_ok HV.out k hlt)
      clear hq hset hcb hv hst hms hm
      go_wp2_with fail
      refine (Calls.intIs HQ.out (l08Class_any xs[k] b (k * 5) _ e0 e1 e2 e3 e4 HOK.out)).mono ?_
      rintro e w3 ⟨rfl, hb3⟩
      have hbel := Bel.trans hbel hb3
      have HBX := Lib.hid (HBX.out.below hb3)
      have c0 : w3.cell? ⟨g, q, none⟩ = some (.int .i64 v) := (HBX.out.cell q).trans hat
      have z0 : w3.frozen? ⟨g, q, none⟩ = false := HBX.out.free q
      clear e0 e1 e2 e3 e4 hb3 hat
      go_wp2_with (go_at_call 30; refine (l00Max_any _ _ _).mono ?_; rintro e w4 ⟨rfl, rfl⟩)
      go_roundw
      case rel => exact ⟨k + 1, by omega, by go_num, vint (by rw [HMS.out]), by rw [← HSET.out]; exact HBX.out.set q _, Bel.setCell hbel hg _⟩
      case measure => simp [intOf]; omega
    · obtain rfl : k = xs.length := by omega
      obtain ⟨m, hm⟩ : ∃ m, mostC xs xs.length = m := ⟨_, rfl⟩
      have hag := agRes_0 HV.out H0.out
      rw [hm] at hmb hag ⊢
      have HAG := Lib.hid hag
      clear hag hm HBX
      go_wp2_with (go_at_call 31; refine (l01Div_any _ _ _ (by omega) (by omega) (by omega) (by omega)).mono ?_; rintro e w' ⟨rfl, rfl⟩)
      go_ret2
      exact ⟨by rw [HAG.out]; rfl, hbel⟩
end Go.Proofs.Ytlicpgmcnebpmaa
