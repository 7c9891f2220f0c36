/- Chapter 28: the worst incident; the most incidents within some days. -/
import Derived.Test.YtabhojeikhfcfaaL28b
namespace Go.Proofs.Ytabhojeikhfcfaa
open Go.RowKit
set_option maxHeartbeats 400000
set_option maxRecDepth 100000
def gtW (a b : SIncident) : Bool := decide (b.Buried < a.Buried) || (decide (a.Buried = b.Buried) && decide (b.Caught < a.Caught))
theorem gtW_or (a b : SIncident) : gtW a b = decide (0 < orI (cmpI a.Buried b.Buried) (cmpI a.Caught b.Caught)) := by
  unfold gtW orI cmpI
  by_cases h1 : a.Buried < b.Buried
  · simp [h1]; omega
  · by_cases h2 : b.Buried < a.Buried
    · simp [h1, h2]
    · have e : a.Buried = b.Buried := by omega
      by_cases h3 : a.Caught < b.Caught
      · simp [e, h3]; omega
      · by_cases h4 : b.Caught < a.Caught <;> simp [e, h3, h4]
theorem gtW_self (a : SIncident) : gtW a a = false := by simp [gtW]
def woRes (xs : List SIncident) : Int × Int := if vlIncident xs then (if xs.length = 0 then (0, 3) else ((bestL gtW xs xs.length : Int), 0)) else (0, 1)
theorem woRes_1 {xs : List SIncident} (h : vlIncident xs = false) : woRes xs = (0, 1) := by simp [woRes, h]
theorem woRes_3 {xs : List SIncident} (h : vlIncident xs = true) (h0 : xs.length = 0) : woRes xs = (0, 3) := by simp only [woRes, h, h0, if_true]
theorem woRes_0 {xs : List SIncident} {m : Nat} (h : vlIncident xs = true) (h0 : ¬ xs.length = 0) (hm : bestL gtW xs xs.length = m) : woRes xs = ((m : Int), 0) := by simp only [woRes, h, h0, if_true, if_false, hm]
theorem bestL_1 {xs : List SIncident} : bestL gtW xs 1 = 0 := by
  rw [bestL, bestL]; cases h : xs[0]? with
  | none => rfl
  | some a => simp
-- 1 fn 2 name 3 valid fn 4 valid thm 5 slots 6 start 7 round, ends with two goals per case by hyp hg
theorem WorstOf_any (xs : List SIncident) (b c : Nat) (w : World) (A : Arr SIncident.cells 6 w b xs) (hn : xs.length ≤ 1048576) (hf : ∀ i (h : i < xs.length), xs[i].Place.size ≤ 9223372036854775807 ∧ xs[i].Cause.size ≤ 9223372036854775807) :
    Calls Try.prog 28 #[.slice (some ⟨b, 0, none⟩) xs.length c] w fun e w' => e = .returned (.tuple #[.int .i64 (woRes xs).1, .int .i64 (woRes xs).2]) ∧ Below w.heap.size w w' := by
  have HA := Lib.hid A
  have HF := Lib.hid hf
  clear A hf
  cases hv : vlIncident xs
  · rw [woRes_1 hv]
    have HV := Lib.hid hv
    clear hv
    go_enter Try.func28, Try.ntmps28
    go_wp2_with (go_at_call 24; refine (Calls.boolIs HV.out (ValidIncidents_any xs b c _ HA.out hn HF.out)).mono ?_; rintro e w1 ⟨rfl, hb1⟩)
    go_ret2
    exact ⟨rfl, hb1⟩
  have HV := Lib.hid hv
  clear hv
  by_cases hz : xs.length = 0
  · rw [woRes_3 HV.out hz]
    have hz1 : ((xs.length : Int) == 0) = true := beq_iff_eq.mpr (by omega)
    clear hz
    go_enter Try.func28, Try.ntmps28
    go_wp2_with (go_at_call 24; refine (Calls.boolIs HV.out (ValidIncidents_any xs b c _ HA.out hn HF.out)).mono ?_; rintro e w1 ⟨rfl, hb1⟩)
    go_ret2
    exact ⟨rfl, hb1⟩
  have hz1 : ((xs.length : Int) == 0) = false := beq_eq_false_iff_ne.mpr (by omega)
  have HZ := Lib.hid hz
  have hz2 : 0 < xs.length := by omega
  generalize hR : woRes xs = R
  have HR := Lib.hid hR
  clear hz hR
  go_enter Try.func28, Try.ntmps28
  go_wp2_with (go_at_call 24; refine (Calls.boolIs HV.out (ValidIncidents_any xs b c _ HA.out hn HF.out)).mono ?_; rintro e w1 ⟨rfl, hb1⟩)
  go_loopw [4, 18] (fun mv i wr => ∃ k m : Nat, k ≤ xs.length ∧ m < xs.length ∧ bestL gtW xs k = m ∧ i = .int .i64 k ∧ mv = .int .i64 m ∧ Below w.heap.size w wr) (fun _ i wr => xs.length - (intOf i).toNat)
  case atStart => exact ⟨0, 0, by omega, by omega, rfl, rfl, rfl, hb1⟩
  case round =>
    obtain ⟨k, m, hk, hm, hwk, rfl, rfl, hbel⟩ := hrel
    have HW := Lib.hid hwk
    clear hwk
    by_cases hlt : k < xs.length
    · skip
      obtain ⟨e0, e1, e2, e3, e4, e5⟩ := SIncident.elem (HA.out.below hbel) hlt
      obtain ⟨g0, g1, g2, g3, g4, g5⟩ := SIncident.elem (HA.out.below hbel) hm
      have hbl := (HA.out.below hbel).1
      go_wp2_with fail
      refine wp_box_out2 ?_
      intro W hbw B1 B2
      have p0 := Past.box B1 (j := 0) (v := .int .i64 xs[k].Day) rfl
      have p1 := Past.box B1 (j := 1) (v := .string xs[k].Place) rfl
      have p2 := Past.box B1 (j := 2) (v := .string xs[k].Cause) rfl
      have p3 := Past.box B1 (j := 3) (v := .int .i64 xs[k].Level) rfl
      have p4 := Past.box B1 (j := 4) (v := .int .i64 xs[k].Caught) rfl
      have p5 := Past.box B1 (j := 5) (v := .int .i64 xs[k].Buried) rfl
      have q0 := Past.box B2 (j := 0) (v := .int .i64 xs[m].Day) rfl
      have q1 := Past.box B2 (j := 1) (v := .string xs[m].Place) rfl
      have q2 := Past.box B2 (j := 2) (v := .string xs[m].Cause) rfl
      have q3 := Past.box B2 (j := 3) (v := .int .i64 xs[m].Level) rfl
      have q4 := Past.box B2 (j := 4) (v := .int .i64 xs[m].Caught) rfl
      have q5 := Past.box B2 (j := 5) (v := .int .i64 xs[m].Buried) rfl
      have hbel := Bel.trans hbel hbw
      clear e0 e1 e2 e3 e4 e5 g0 g1 g2 g3 g4 g5 B1 B2 hbw
      refine wp_region_past_tail 10 (by kernel_rfl) (by kernel_rfl) ?_
      simp only [List.take_succ_cons, List.take_zero, List.drop_succ_cons, List.drop_zero]
      repeat (go_big_quiet_step ((go_at_call 49; exact Past.same _ (compareI_any _ _ _))))
      refine wpQuiet_nil ?_
      intro W1 hw'
      obtain ⟨⟨W_, hbx⟩, hw''⟩ := hw'
      subst hw''
      have hbel := Bel.trans hbel hbx
      clear p0 p1 p2 p3 p4 p5 q0 q1 q2 q3 q4 q5 hbx
      go_wp2_with fail
      refine calls_box_out ?_
      intro W2 hb2 B
      obtain ⟨v, hv⟩ : ∃ v, orI (cmpI xs[k].Buried xs[m].Buried) (cmpI xs[k].Caught xs[m].Caught) = v := ⟨_, rfl⟩
      have HVV := Lib.hid hv
      clear hv
      refine (Calls.intIs HVV.out (or2_any _ _ _ _ _ (B.cell 0) (B.cell 1))).mono ?_
      rintro e w2 ⟨rfl, rfl⟩
      have hbel := Bel.trans hbel hb2
      clear B hb2
      by_cases hpq : 0 < v
      · go_wp2
        go_roundw
        case rel => exact ⟨k + 1, k, by omega, by omega, bestL_yes hlt HW.out hm (by rw [gtW_or, HVV.out]; exact decide_eq_true hpq), by go_num, rfl, hbel⟩
        case measure => simp [intOf]; omega
      · go_wp2
        go_roundw
        case rel => exact ⟨k + 1, m, by omega, by omega, bestL_no hlt HW.out hm (by rw [gtW_or, HVV.out]; exact decide_eq_false (by omega)), by go_num, rfl, hbel⟩
        case measure => simp [intOf]; omega
    · have hke : k = xs.length := by omega
      have HK := Lib.hid hke
      clear hke
      have hex : decide ((k : Int) < (xs.length : Int)) = false := decide_eq_false (by omega)
      go_wp2
      go_ret2
      exact ⟨by rw [← HR.out, woRes_0 (m := m) HV.out HZ.out (by have h := HW.out; rw [HK.out] at h; exact h)]; rfl, hbel⟩
-- 1 fn 2 name 3 valid fn 4 valid thm 5 slots 6 start 7 round, ends with two goals per case by hyp hg
theorem sWorstOf_any (xs : List SIncident) (b c : Nat) (w : World) (A : Arr SIncident.cells 6 w b xs) (hn : xs.length ≤ 1048576) (hf : ∀ i (h : i < xs.length), xs[i].Place.size ≤ 9223372036854775807 ∧ xs[i].Cause.size ≤ 9223372036854775807) :
    Calls Try.prog 27 #[.slice (some ⟨b, 0, none⟩) xs.length c] w fun e w' => e = .returned (.tuple #[.int .i64 (woRes xs).1, .int .i64 (woRes xs).2]) ∧ Below w.heap.size w w' := by
  have HA := Lib.hid A
  have HF := Lib.hid hf
  clear A hf
  cases hv : vlIncident xs
  · rw [woRes_1 hv]
    have HV := Lib.hid hv
    clear hv
    go_enter Try.func27, Try.ntmps27
    go_wp2_with (go_at_call 30; refine (Calls.boolIs HV.out (l28Ok_any xs b c _ HA.out hn HF.out)).mono ?_; rintro e w1 ⟨rfl, hb1⟩)
    go_ret2
    exact ⟨rfl, hb1⟩
  have HV := Lib.hid hv
  clear hv
  by_cases hz : xs.length = 0
  · rw [woRes_3 HV.out hz]
    have hz1 : ((xs.length : Int) == 0) = true := beq_iff_eq.mpr (by omega)
    clear hz
    go_enter Try.func27, Try.ntmps27
    go_wp2_with (go_at_call 30; refine (Calls.boolIs HV.out (l28Ok_any xs b c _ HA.out hn HF.out)).mono ?_; rintro e w1 ⟨rfl, hb1⟩)
    go_ret2
    exact ⟨rfl, hb1⟩
  have hz1 : ((xs.length : Int) == 0) = false := beq_eq_false_iff_ne.mpr (by omega)
  have HZ := Lib.hid hz
  have hz2 : 0 < xs.length := by omega
  generalize hR : woRes xs = R
  have HR := Lib.hid hR
  clear hz hR
  go_enter Try.func27, Try.ntmps27
  go_wp2_with (go_at_call 30; refine (Calls.boolIs HV.out (l28Ok_any xs b c _ HA.out hn HF.out)).mono ?_; rintro e w1 ⟨rfl, hb1⟩)
  go_loopw [4, 5] (fun mv i wr => ∃ k m : Nat, k ≤ xs.length ∧ m < xs.length ∧ bestL gtW xs k = m ∧ i = .int .i64 k ∧ mv = .int .i64 m ∧ Below w.heap.size w wr) (fun _ i wr => xs.length - (intOf i).toNat)
  case atStart => exact ⟨1, 0, by omega, by omega, bestL_1, rfl, rfl, hb1⟩
  case round =>
    obtain ⟨k, m, hk, hm, hwk, rfl, rfl, hbel⟩ := hrel
    have HW := Lib.hid hwk
    clear hwk
    by_cases hlt : k < xs.length
    · skip
      obtain ⟨p0, p1, p2, p3, p4, p5⟩ := SIncident.elems (HA.out.below hbel) hlt
      obtain ⟨q0, q1, q2, q3, q4, q5⟩ := SIncident.elems (HA.out.below hbel) hm
      go_wp2_with fail
      by_cases h1 : xs[m].Buried < xs[k].Buried
      · have hg : gtW xs[k] xs[m] = true := by simp [gtW] <;> omega
        have HG := Lib.hid hg
        clear hg
        refine wp_region_past (by kernel_rfl) (by kernel_rfl) ?_
        repeat (go_big_quiet_step (fail))
        refine wpQuiet_nil ?_
        intro W1 hw'
        obtain ⟨⟨W_, hbx⟩, hw''⟩ := hw'
        subst hw''
        have hbel := Bel.trans hbel hbx
        clear p0 p1 p2 p3 p4 p5 q0 q1 q2 q3 q4 q5
        go_wp2
        go_roundw
        case rel => exact ⟨k + 1, k, by omega, by omega, bestL_yes hlt HW.out hm HG.out, by go_num, rfl, hbel⟩
        case measure => simp [intOf]; omega
      · by_cases h2 : xs[k].Buried = xs[m].Buried
        · have h2' : (xs[k].Buried == xs[m].Buried) = true := beq_iff_eq.mpr h2
          have h1' : decide (xs[m].Buried < xs[k].Buried) = false := decide_eq_false h1
          by_cases h3 : xs[m].Caught < xs[k].Caught
          · have hg : gtW xs[k] xs[m] = true := by simp [gtW, h2, h3]
            have HG := Lib.hid hg
            have h3' : decide (xs[m].Caught < xs[k].Caught) = true := decide_eq_true h3
            clear hg h2
            refine wp_region_past (by kernel_rfl) (by kernel_rfl) ?_
            repeat (go_big_quiet_step (fail))
            refine wpQuiet_nil ?_
            intro W1 hw'
            obtain ⟨⟨W_, hbx⟩, hw''⟩ := hw'
            subst hw''
            have hbel := Bel.trans hbel hbx
            clear p0 p1 p2 p3 p4 p5 q0 q1 q2 q3 q4 q5
            go_wp2
            go_roundw
            case rel => exact ⟨k + 1, k, by omega, by omega, bestL_yes hlt HW.out hm HG.out, by go_num, rfl, hbel⟩
            case measure => simp [intOf]; omega
          · have hg : gtW xs[k] xs[m] = false := by simp [gtW, h2]; omega
            have HG := Lib.hid hg
            have h3' : decide (xs[m].Caught < xs[k].Caught) = false := decide_eq_false h3
            clear hg h2
            refine wp_region_past (by kernel_rfl) (by kernel_rfl) ?_
            repeat (go_big_quiet_step (fail))
            refine wpQuiet_nil ?_
            intro W1 hw'
            obtain ⟨⟨W_, hbx⟩, hw''⟩ := hw'
            subst hw''
            have hbel := Bel.trans hbel hbx
            clear p0 p1 p2 p3 p4 p5 q0 q1 q2 q3 q4 q5
            go_wp2
            go_roundw
            case rel => exact ⟨k + 1, m, by omega, by omega, bestL_no hlt HW.out hm HG.out, by go_num, rfl, hbel⟩
            case measure => simp [intOf]; omega
        · have h2' : (xs[k].Buried == xs[m].Buried) = false := beq_eq_false_iff_ne.mpr h2
          have h1' : decide (xs[m].Buried < xs[k].Buried) = false := decide_eq_false h1
          have hg : gtW xs[k] xs[m] = false := by simp [gtW] <;> omega
          have HG := Lib.hid hg
          clear hg h2
          refine wp_region_past (by kernel_rfl) (by kernel_rfl) ?_
          repeat (go_big_quiet_step (fail))
          refine wpQuiet_nil ?_
          intro W1 hw'
          obtain ⟨⟨W_, hbx⟩, hw''⟩ := hw'
          subst hw''
          have hbel := Bel.trans hbel hbx
          clear p0 p1 p2 p3 p4 p5 q0 q1 q2 q3 q4 q5
          go_wp2
          go_roundw
          case rel => exact ⟨k + 1, m, by omega, by omega, bestL_no hlt HW.out hm HG.out, by go_num, rfl, hbel⟩
          case measure => simp [intOf]; omega
    · have hke : k = xs.length := by omega
      have HK := Lib.hid hke
      clear hke
      have hex : decide ((k : Int) < (xs.length : Int)) = false := decide_eq_false (by omega)
      go_wp2
      go_ret2
      exact ⟨by rw [← HR.out, woRes_0 (m := m) HV.out HZ.out (by have h := HW.out; rw [HK.out] at h; exact h)]; rfl, hbel⟩
end Go.Proofs.Ytabhojeikhfcfaa
