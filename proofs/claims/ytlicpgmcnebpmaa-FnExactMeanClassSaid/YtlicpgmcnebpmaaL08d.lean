/- Chapter 8: recent tests, their mean class: the walks. -/
import Derived.Test.YtlicpgmcnebpmaaL08c
namespace Go.Proofs.Ytlicpgmcnebpmaa
set_option linter.unusedSimpArgs false
set_option linter.unusedVariables false
open Go.RowKit
set_option maxHeartbeats 400000
set_option maxRecDepth 100000
theorem rtRes_1 {xs : List STest} {hour n : Int} (h : vlTest xs = false) : rtRes xs hour n = ([], 1) := by rw [rtRes, if_neg (by rw [h]; simp)]
theorem rtRes_2 {xs : List STest} {hour n : Int} (h : vlTest xs = true) (h2 : (inr 0 100000 hour && inr 0 300 n) = false) : rtRes xs hour n = ([], 2) := by rw [rtRes, if_pos h, if_neg (by rw [h2]; simp)]
theorem rtRes_ok {xs : List STest} {hour n : Int} (h : (rtRes xs hour n).2 = 0) : vlTest xs = true ∧ inr 0 100000 hour = true ∧ inr 0 300 n = true ∧ (rtRes xs hour n).1 = idxL (qRec hour n) xs xs.length := by
  cases hv : vlTest xs
  · rw [rtRes_1 hv] at h; simp at h
  · cases h2 : (inr 0 100000 hour && inr 0 300 n)
    · rw [rtRes_2 hv h2] at h; simp at h
    · rw [Bool.and_eq_true] at h2
      exact ⟨rfl, h2.1, h2.2, by rw [rtRes_0 hv h2.1 h2.2]⟩
theorem RecentTests_any (xs : List STest) (b c : Nat) (hour n : Int) (w : World) (A : Arr STest.cells 5 w b xs) (hn : xs.length ≤ 1048576) :
    Calls Try.prog 22 #[.slice (some ⟨b, 0, none⟩) xs.length c, .int .i64 hour, .int .i64 n] w fun e w' => (∃ v, e = .returned (.tuple #[v, .int .i64 (rtRes xs hour n).2]) ∧ Row intc 1 2 w' w.heap.size v (rtRes xs hour n).1) ∧ Below w.heap.size w w' := by
  have HA := Lib.hid A
  clear A
  go_enter Try.func22, Try.ntmps22
  go_wp2_with (first | (go_at_call 33; refine (ValidTests_any xs b c _ HA.out hn).mono ?_; rintro e w1 ⟨rfl, hb1⟩) | (go_at_call 44; refine (hourOk_any _ _).mono ?_; rintro e w' ⟨rfl, rfl⟩) | (go_at_call 40; refine (nearOk_any _ _).mono ?_; rintro e w' ⟨rfl, rfl⟩))
  all_goals try (go_ret2; first | (rw [rtRes_1 (by first | assumption | exact not_f (by assumption) | exact not_t (by assumption))]; exact ⟨⟨_, rfl, Row.nil⟩, (by repeat (first | (with_reducible assumption) | (with_reducible exact Below.refl _ _) | (with_reducible refine Bel.alloc ?_ _) | (with_reducible refine Below.drew ?_) | (with_reducible refine Bel.drewN ?_ _) | (with_reducible refine Bel.setCell ?_ (by (try simp) <;> omega) _) | (with_reducible refine Bel.trans ?_ (by assumption))))⟩) | (rw [rtRes_2 (by first | assumption | exact not_f (by assumption) | exact not_t (by assumption)) (by simp_all)]; exact ⟨⟨_, rfl, Row.nil⟩, (by repeat (first | (with_reducible assumption) | (with_reducible exact Below.refl _ _) | (with_reducible refine Bel.alloc ?_ _) | (with_reducible refine Below.drew ?_) | (with_reducible refine Bel.drewN ?_ _) | (with_reducible refine Bel.setCell ?_ (by (try simp) <;> omega) _) | (with_reducible refine Bel.trans ?_ (by assumption))))⟩))
  have hv : vlTest xs = true := (by first | assumption | exact not_f (by assumption) | exact not_t (by assumption))
  have hh : inr 0 100000 hour = true := (by first | assumption | exact not_f (by assumption) | exact not_t (by assumption))
  have hq : inr 0 300 n = true := (by first | assumption | exact not_f (by assumption) | exact not_t (by assumption))
  obtain ⟨hh0, hh1⟩ := inr_bd' hh
  obtain ⟨hn0, hn1⟩ := inr_bd' hq
  have hlen := vlTest_len hv
  simp only [hv, hh, hq, Bool.not_true]
  have HV := Lib.hid hv
  have HH := Lib.hid hh
  have HN := Lib.hid hq
  clear hv hh hq
  go_loopw [8, 26] (fun v i wr => ∃ k : Nat, k ≤ xs.length ∧ i = .int .i64 k ∧ Row intc 1 2 wr w.heap.size v (idxL (qRec hour n) xs k) ∧ Below w.heap.size w wr) (fun _ i wr => xs.length - (intOf i).toNat)
  case atStart => exact ⟨0, by omega, rfl, Row.nil, hb1⟩
  case round =>
    obtain ⟨k, hk, rfl, hrow, hbel⟩ := hrel
    have HR := Lib.hid hrow
    clear hrow
    by_cases hlt : k < xs.length
    · obtain ⟨e0, e1, e2, e3, e4⟩ := STest.elem (HA.out.below hbel) hlt
      have hle := idxL_len (qRec hour n) xs k
      cases hq : qRec hour n xs[k]
      · have HQ := Lib.hid hq
        clear hq
        go_wp2_with fail
        refine calls_box_out ?_
        intro W hbw B
        refine (Calls.boolIs (show inr (hour - n) hour xs[k].Hour = false from HQ.out) (within_any _ _ _ _)).mono ?_
        rintro e w' ⟨rfl, rfl⟩
        go_wp2
        go_roundw
        case rel => exact ⟨k + 1, by omega, by go_num, by rw [idxL_no hlt HQ.out]; exact HR.out.below hbw, Bel.trans hbel hbw⟩
        case measure => simp [intOf]; omega
      · have HQ := Lib.hid hq
        clear hq
        go_wp2_with fail
        refine calls_box_out ?_
        intro W hbw B
        refine (Calls.boolIs (show inr (hour - n) hour xs[k].Hour = true from HQ.out) (within_any _ _ _ _)).mono ?_
        rintro e w' ⟨rfl, rfl⟩
        have HR := Lib.hid (HR.out.below hbw)
        have hbel := Bel.trans hbel hbw
        have hsz := hbel.size
        clear B e0 e1 e2 e3 e4 hbw
        go_wp2_with (at_builtin; refine wpList_pushI rfl _ _ 39 rfl w.heap.size 2 Try.underlying39 (by kernel_rfl) u8 (idxL (qRec hour n) xs k) (k : Int) rfl HR.out 1 rfl (by omega) hsz ?_; intro v' w3 hr3 hg3 hb4)
        go_roundw
        case rel => exact ⟨k + 1, by omega, by go_num, by rw [idxL_yes hlt HQ.out]; exact hr3, hbel.trans hb4⟩
        case measure => simp [intOf]; omega
    · obtain rfl : k = xs.length := by omega
      go_wp2
      go_ret2
      rw [rtRes_0 HV.out HH.out HN.out]
      exact ⟨⟨_, rfl, HR.out⟩, hbel⟩
theorem l08Recent_any (xs : List STest) (b c : Nat) (hour n : Int) (w : World) (A : Arr STest.cells 5 w b xs) (hn : xs.length ≤ 16) (hh0 : 0 ≤ hour) (hh1 : hour ≤ 100000) (hn0 : 0 ≤ n) (hn1 : n ≤ 300) :
    Calls Try.prog 43 #[.slice (some ⟨b, 0, none⟩) xs.length c, .int .i64 hour, .int .i64 n] w fun e w' => (∃ v, e = .returned v ∧ Row intc 1 2 w' w.heap.size v (idxL (qRec hour n) xs xs.length)) ∧ Below w.heap.size w w' := by
  have HA := Lib.hid A
  clear A
  go_enter Try.func43, Try.ntmps43
  go_wp2_with fail
  go_loopw [7, 8] (fun v i wr => ∃ k : Nat, k ≤ xs.length ∧ i = .int .i64 k ∧ Row intc 1 2 wr w.heap.size v (idxL (qRec hour n) xs k) ∧ Below w.heap.size w wr) (fun _ i wr => xs.length - (intOf i).toNat)
  case atStart => exact ⟨0, by omega, rfl, Row.empty (Nat.le_refl _), Bel.alloc (Below.refl _ _) _⟩
  case round =>
    obtain ⟨k, hk, rfl, hrow, hbel⟩ := hrel
    have HR := Lib.hid hrow
    clear hrow
    by_cases hlt : k < xs.length
    · obtain ⟨e0, e1, e2, e3, e4⟩ := STest.elem (HA.out.below hbel) hlt
      have hle := idxL_len (qRec hour n) xs k
      have hsz := hbel.size
      by_cases h1 : xs[k].Hour ≤ hour
      · by_cases h2 : hour - n ≤ xs[k].Hour
        · have hq : qRec hour n xs[k] = true := by rw [qRec, decide_eq_true h1, decide_eq_true h2]; rfl
          have HQ := Lib.hid hq
          clear hq
          go_wp2_with (at_builtin; refine wpList_pushI rfl _ _ 39 rfl w.heap.size 2 Try.underlying39 (by kernel_rfl) u7 (idxL (qRec hour n) xs k) (k : Int) rfl HR.out 1 rfl (by omega) hsz ?_; intro v' w3 hr3 hg3 hb4)
          go_roundw
          case rel => exact ⟨k + 1, by omega, by go_num, by rw [idxL_yes hlt HQ.out]; exact hr3, hbel.trans hb4⟩
          case measure => simp [intOf]; omega
        · have hq : qRec hour n xs[k] = false := by rw [qRec, decide_eq_true h1, decide_eq_false h2]; rfl
          have HQ := Lib.hid hq
          clear hq
          go_wp2
          go_roundw
          case rel => exact ⟨k + 1, by omega, by go_num, by rw [idxL_no hlt HQ.out]; exact HR.out, (by repeat (first | (with_reducible assumption) | (with_reducible exact Below.refl _ _) | (with_reducible refine Bel.alloc ?_ _) | (with_reducible refine Below.drew ?_) | (with_reducible refine Bel.drewN ?_ _) | (with_reducible refine Bel.setCell ?_ (by (try simp) <;> omega) _) | (with_reducible refine Bel.trans ?_ (by assumption))))⟩
          case measure => simp [intOf]; omega
      · have hq : qRec hour n xs[k] = false := by rw [qRec, decide_eq_false h1, Bool.and_false]
        have HQ := Lib.hid hq
        clear hq
        go_wp2
        go_roundw
        case rel => exact ⟨k + 1, by omega, by go_num, by rw [idxL_no hlt HQ.out]; exact HR.out, (by repeat (first | (with_reducible assumption) | (with_reducible exact Below.refl _ _) | (with_reducible refine Bel.alloc ?_ _) | (with_reducible refine Below.drew ?_) | (with_reducible refine Bel.drewN ?_ _) | (with_reducible refine Bel.setCell ?_ (by (try simp) <;> omega) _) | (with_reducible refine Bel.trans ?_ (by assumption))))⟩
        case measure => simp [intOf]; omega
    · obtain rfl : k = xs.length := by omega
      go_wp2
      go_ret
      exact ⟨⟨_, rfl, HR.out⟩, hbel⟩
theorem sRecentTests_any (xs : List STest) (b c : Nat) (hour n : Int) (w : World) (A : Arr STest.cells 5 w b xs) (hn : xs.length ≤ 1048576) :
    Calls Try.prog 21 #[.slice (some ⟨b, 0, none⟩) xs.length c, .int .i64 hour, .int .i64 n] w fun e w' => (∃ v, e = .returned (.tuple #[v, .int .i64 (rtRes xs hour n).2]) ∧ Row intc 1 2 w' w.heap.size v (rtRes xs hour n).1) ∧ Below w.heap.size w w' := by
  have HA := Lib.hid A
  clear A
  go_enter Try.func21, Try.ntmps21
  go_wp2_with (first | (go_at_call 28; refine (l08Ok_any xs b c _ HA.out hn).mono ?_; rintro e w1 ⟨rfl, hb1⟩) | (go_at_call 42; refine (l04Hour_any _ _).mono ?_; rintro e w' ⟨rfl, rfl⟩) | (go_at_call 38; refine (l08Near_any _ _).mono ?_; rintro e w' ⟨rfl, rfl⟩))
  all_goals try (go_ret2; first | (rw [rtRes_1 (by first | assumption | exact not_f (by assumption) | exact not_t (by assumption))]; exact ⟨⟨_, rfl, Row.nil⟩, (by repeat (first | (with_reducible assumption) | (with_reducible exact Below.refl _ _) | (with_reducible refine Bel.alloc ?_ _) | (with_reducible refine Below.drew ?_) | (with_reducible refine Bel.drewN ?_ _) | (with_reducible refine Bel.setCell ?_ (by (try simp) <;> omega) _) | (with_reducible refine Bel.trans ?_ (by assumption))))⟩) | (rw [rtRes_2 (by first | assumption | exact not_f (by assumption) | exact not_t (by assumption)) (by simp_all)]; exact ⟨⟨_, rfl, Row.nil⟩, (by repeat (first | (with_reducible assumption) | (with_reducible exact Below.refl _ _) | (with_reducible refine Bel.alloc ?_ _) | (with_reducible refine Below.drew ?_) | (with_reducible refine Bel.drewN ?_ _) | (with_reducible refine Bel.setCell ?_ (by (try simp) <;> omega) _) | (with_reducible refine Bel.trans ?_ (by assumption))))⟩))
  have hv : vlTest xs = true := (by first | assumption | exact not_f (by assumption) | exact not_t (by assumption))
  have hh : inr 0 100000 hour = true := (by first | assumption | exact not_f (by assumption) | exact not_t (by assumption))
  have hq : inr 0 300 n = true := (by first | assumption | exact not_f (by assumption) | exact not_t (by assumption))
  obtain ⟨hh0, hh1⟩ := inr_bd' hh
  obtain ⟨hn0, hn1⟩ := inr_bd' hq
  have hlen := vlTest_len hv
  simp only [hv, hh, hq, Bool.not_true]
  have HV := Lib.hid hv
  have HH := Lib.hid hh
  have HN := Lib.hid hq
  clear hv hh hq
  refine (l08Recent_any xs b c hour n _ (HA.out.below hb1) hlen hh0 hh1 hn0 hn1).mono ?_
  rintro e w2 ⟨⟨v, rfl, R⟩, hb2⟩
  go_wp2
  go_ret2
  rw [rtRes_0 HV.out HH.out HN.out]
  exact ⟨⟨_, rfl, R.lower hb1.size⟩, Bel.trans hb1 hb2⟩
theorem mcRes_c {xs : List STest} {hour n cc : Int} (h : (rtRes xs hour n).2 = cc) (h2 : ¬ cc = 0) : mcRes xs hour n = (0, cc) := by rw [mcRes, h, if_neg h2]
theorem mcRes_3 {xs : List STest} {hour n : Int} {L : List Int} (h : (rtRes xs hour n).2 = 0) (hL : (rtRes xs hour n).1 = L) (h2 : L.length = 0) : mcRes xs hour n = (0, 3) := by rw [mcRes, if_pos h, hL, if_pos h2]
theorem mcRes_0 {xs : List STest} {hour n s : Int} {L : List Int} (h : (rtRes xs hour n).2 = 0) (hL : (rtRes xs hour n).1 = L) (h2 : ¬ L.length = 0) (hs : sumL (clsAt xs) L L.length = s) : mcRes xs hour n = (rdiv (100 * s) (L.length : Int), 0) := by rw [mcRes, if_pos h, hL, if_neg h2, hs]
theorem clsSum_bd (xs : List STest) (L : List Int) (k : Nat) : 0 ≤ sumL (clsAt xs) L k ∧ sumL (clsAt xs) L k ≤ 4 * k := sumL_bd (by omega) (fun i hi => clsAt_bd xs _) k
theorem MeanClass_any (xs : List STest) (b c : Nat) (hour n : Int) (w : World) (A : Arr STest.cells 5 w b xs) (hn : xs.length ≤ 1048576) :
    Calls Try.prog 20 #[.slice (some ⟨b, 0, none⟩) xs.length c, .int .i64 hour, .int .i64 n] w fun e w' => e = .returned (.tuple #[.int .i64 (mcRes xs hour n).1, .int .i64 (mcRes xs hour n).2]) ∧ Below w.heap.size w w' := by
  have HA := Lib.hid A
  clear A
  obtain ⟨L, hL⟩ : ∃ L, (rtRes xs hour n).1 = L := ⟨_, rfl⟩
  obtain ⟨cc, hcc⟩ : ∃ cc, (rtRes xs hour n).2 = cc := ⟨_, rfl⟩
  have hLl := rtRes_len (xs := xs) (hour := hour) (n := n)
  have hra := RecentTests_any xs b c hour n w HA.out hn
  rw [hL] at hLl
  rw [hL, hcc] at hra
  have HL := Lib.hid hL
  have HCC := Lib.hid hcc
  have HRA := Lib.hid hra
  clear hL hcc hra
  go_enter Try.func20, Try.ntmps20
  go_wp2_with fail
  refine HRA.out.mono ?_
  rintro e w1 ⟨⟨v, rfl, R⟩, hb1⟩
  obtain ⟨D, d, rfl, hS⟩ := R.form (fun _ => rfl)
  clear R
  by_cases hz : cc = 0
  · have hz1 : (cc != 0) = false := by simp [hz]
    have hc0 := HCC.out
    rw [hz] at hc0
    obtain ⟨hv, hh, hq, hL2⟩ := rtRes_ok hc0
    have HC0 := Lib.hid hc0
    have HV := Lib.hid hv
    rw [HL.out] at hL2
    have HL2 := Lib.hid hL2
    clear hc0 hv hh hq hL2
    by_cases h0 : L.length = 0
    · have hz2 : ((L.length : Int) == 0) = true := beq_iff_eq.mpr (by omega)
      have H0 := Lib.hid h0
      clear h0 hS
      go_wp2
      go_ret2
      exact ⟨by rw [mcRes_3 HC0.out HL.out H0.out]; rfl, hb1⟩
    · have hz2 : ((L.length : Int) == 0) = false := beq_eq_false_iff_ne.mpr (by omega)
      have hlp : 0 < L.length := by omega
      have H0 := Lib.hid h0
      obtain ⟨g, o, rfl, hc⟩ := hS hlp
      have HC := Lib.hid hc
      have hgb := hc.1
      clear h0 hS hc
      go_wp2_with fail
      go_loopw [10, 30] (fun s i wr => ∃ k : Nat, k ≤ L.length ∧ i = .int .i64 k ∧ s = .int .i64 (sumL (clsAt xs) L k) ∧ Below w1.heap.size w1 wr) (fun _ i wr => L.length - (intOf i).toNat)
      case atStart => exact ⟨0, by omega, rfl, rfl, Below.refl _ _⟩
      case round =>
        obtain ⟨k, hk, rfl, rfl, hbel⟩ := hrel
        have hsb := clsSum_bd xs L k
        by_cases hlt : k < L.length
        · obtain ⟨i, hi, hLi⟩ : ∃ i : Nat, i < xs.length ∧ L[k] = (i : Int) := by
            have := idxL_mem (q := qRec hour n) (xs := xs) (n := xs.length) (k := k) (by rw [← HL2.out]; exact hlt)
            simp only [← HL2.out] at this
            exact this
          have c0 : wr.cell? ⟨g, o + k, none⟩ = some (.int .i64 (i : Int)) := by
            have := (HC.out.below hbel hgb).2 k hlt 0 (.int .i64 L[k]) rfl
            rw [Nat.mul_one, Nat.add_zero, hLi] at this
            exact this
          obtain ⟨e0, e1, e2, e3, e4⟩ := STest.elem (HA.out.below (Bel.trans hb1 hbel)) hi
          obtain ⟨q, hq⟩ : ∃ q, cls xs[i] = q := ⟨_, rfl⟩
          have hst := sumL_at (f := clsAt xs) hlt
          rw [hLi, clsAt_eq hi, hq] at hst
          have hqb := cls_bd xs[i]
          rw [hq] at hqb
          have HQ := Lib.hid hq
          have HST := Lib.hid hst
          have hok := vlTest_ok HV.out i hi
          have HOK := Lib.hid hok
          obtain ⟨s, hs⟩ : ∃ s, sumL (clsAt xs) L k = s := ⟨_, rfl⟩
          rw [hs] at hsb ⊢
          have HS := Lib.hid hs
          clear hq hst hok hLi hs
          go_wp2_with (go_at_call 34; refine (Calls.intIs HQ.out (class_any xs[i] _ HOK.out)).mono ?_; rintro e w3 ⟨rfl, hb3⟩)
          go_roundw
          case rel => exact ⟨k + 1, by omega, by go_num, vint (by rw [HST.out, HS.out]), Bel.trans hbel hb3⟩
          case measure => simp [intOf]; omega
        · have hke : k = L.length := by omega
          have hex : decide ((k : Int) < (L.length : Int)) = false := decide_eq_false (by omega)
          obtain ⟨s, hs⟩ : ∃ s, sumL (clsAt xs) L k = s := ⟨_, rfl⟩
          rw [hs] at hsb ⊢
          rw [hke] at hs
          have HS := Lib.hid hs
          have hbt := Bel.trans hb1 hbel
          clear hke hs
          go_wp2_with (go_at_call 35; refine (divRound_any _ _ _ (by omega) (by omega) (by omega) (by omega)).mono ?_; rintro e w' ⟨rfl, nn, rfl⟩)
          go_ret2
          exact ⟨by rw [mcRes_0 HC0.out HL.out H0.out HS.out]; rfl, Bel.drewN hbt _⟩
  · have hz1 : (cc != 0) = true := by simp [hz]
    have HZ := Lib.hid hz
    clear hz hS
    go_wp2
    go_ret2
    exact ⟨by rw [mcRes_c HCC.out HZ.out]; rfl, hb1⟩
theorem sMeanClass_any (xs : List STest) (b c : Nat) (hour n : Int) (w : World) (A : Arr STest.cells 5 w b xs) (hn : xs.length ≤ 1048576) :
    Calls Try.prog 19 #[.slice (some ⟨b, 0, none⟩) xs.length c, .int .i64 hour, .int .i64 n] w fun e w' => e = .returned (.tuple #[.int .i64 (mcRes xs hour n).1, .int .i64 (mcRes xs hour n).2]) ∧ Below w.heap.size w w' := by
  have HA := Lib.hid A
  clear A
  go_enter Try.func19, Try.ntmps19
  go_wp2_with (first | (go_at_call 28; refine (l08Ok_any xs b c _ HA.out hn).mono ?_; rintro e w1 ⟨rfl, hb1⟩) | (go_at_call 42; refine (l04Hour_any _ _).mono ?_; rintro e w' ⟨rfl, rfl⟩) | (go_at_call 38; refine (l08Near_any _ _).mono ?_; rintro e w' ⟨rfl, rfl⟩))
  all_goals try (go_ret2; first | (rw [mcRes_c (cc := 1) (by rw [rtRes_1 (by first | assumption | exact not_f (by assumption) | exact not_t (by assumption))]) (by omega)]; exact ⟨rfl, (by repeat (first | (with_reducible assumption) | (with_reducible exact Below.refl _ _) | (with_reducible refine Bel.alloc ?_ _) | (with_reducible refine Below.drew ?_) | (with_reducible refine Bel.drewN ?_ _) | (with_reducible refine Bel.setCell ?_ (by (try simp) <;> omega) _) | (with_reducible refine Bel.trans ?_ (by assumption))))⟩) | (rw [mcRes_c (cc := 2) (by rw [rtRes_2 (by first | assumption | exact not_f (by assumption) | exact not_t (by assumption)) (by simp_all)]) (by omega)]; exact ⟨rfl, (by repeat (first | (with_reducible assumption) | (with_reducible exact Below.refl _ _) | (with_reducible refine Bel.alloc ?_ _) | (with_reducible refine Below.drew ?_) | (with_reducible refine Bel.drewN ?_ _) | (with_reducible refine Bel.setCell ?_ (by (try simp) <;> omega) _) | (with_reducible refine Bel.trans ?_ (by assumption))))⟩))
  have hv : vlTest xs = true := (by first | assumption | exact not_f (by assumption) | exact not_t (by assumption))
  have hh : inr 0 100000 hour = true := (by first | assumption | exact not_f (by assumption) | exact not_t (by assumption))
  have hq : inr 0 300 n = true := (by first | assumption | exact not_f (by assumption) | exact not_t (by assumption))
  obtain ⟨hh0, hh1⟩ := inr_bd' hh
  obtain ⟨hn0, hn1⟩ := inr_bd' hq
  have hlen := vlTest_len hv
  simp only [hv, hh, hq, Bool.not_true]
  have HV := Lib.hid hv
  have HH := Lib.hid hh
  have HN := Lib.hid hq
  clear hv hh hq
  obtain ⟨L, hL⟩ : ∃ L, idxL (qRec hour n) xs xs.length = L := ⟨_, rfl⟩
  have hLl := idxL_len (qRec hour n) xs xs.length
  rw [hL] at hLl
  have hrt := rtRes_0 HV.out HH.out HN.out
  rw [hL] at hrt
  have hc0 : (rtRes xs hour n).2 = 0 := by rw [hrt]
  have hcl : (rtRes xs hour n).1 = L := by rw [hrt]
  have HC0 := Lib.hid hc0
  have HL := Lib.hid hcl
  have HL2 := Lib.hid hL.symm
  clear hrt hc0 hcl
  refine (l08Recent_any xs b c hour n _ (HA.out.below hb1) hlen hh0 hh1 hn0 hn1).mono ?_
  rw [hL]
  clear hL
  rintro e w2 ⟨⟨v, rfl, R⟩, hb2⟩
  obtain ⟨D, d, rfl, hS⟩ := R.form (fun _ => rfl)
  have hb1 := Bel.trans hb1 hb2
  clear R hb2
  by_cases h0 : L.length = 0
  · have hz2 : ((L.length : Int) == 0) = true := beq_iff_eq.mpr (by omega)
    have H0 := Lib.hid h0
    clear h0 hS
    go_wp2
    go_ret2
    exact ⟨by rw [mcRes_3 HC0.out HL.out H0.out]; rfl, hb1⟩
  · have hz2 : ((L.length : Int) == 0) = false := beq_eq_false_iff_ne.mpr (by omega)
    have hlp : 0 < L.length := by omega
    have H0 := Lib.hid h0
    obtain ⟨g, o, rfl, hc⟩ := hS hlp
    have HC := Lib.hid hc
    have hgb := hc.1
    clear h0 hS hc
    go_wp2_with fail
    go_loopw [9, 10] (fun s i wr => ∃ k : Nat, k ≤ L.length ∧ i = .int .i64 k ∧ s = .int .i64 (sumL (clsAt xs) L k) ∧ Below w2.heap.size w2 wr) (fun _ i wr => L.length - (intOf i).toNat)
    case atStart => exact ⟨0, by omega, rfl, rfl, Below.refl _ _⟩
    case round =>
      obtain ⟨k, hk, rfl, rfl, hbel⟩ := hrel
      have hsb := clsSum_bd xs L k
      by_cases hlt : k < L.length
      · obtain ⟨i, hi, hLi⟩ : ∃ i : Nat, i < xs.length ∧ L[k] = (i : Int) := by
          have := idxL_mem (q := qRec hour n) (xs := xs) (n := xs.length) (k := k) (by rw [← HL2.out]; exact hlt)
          simp only [← HL2.out] at this
          exact this
        have c0 : wr.cell? ⟨g, o + k, none⟩ = some (.int .i64 (i : Int)) := by
          have := (HC.out.below hbel hgb).2 k hlt 0 (.int .i64 L[k]) rfl
          rw [Nat.mul_one, Nat.add_zero, hLi] at this
          exact this
        obtain ⟨e0, e1, e2, e3, e4⟩ := STest.elem (HA.out.below (Bel.trans hb1 hbel)) hi
        obtain ⟨q, hq⟩ : ∃ q, cls xs[i] = q := ⟨_, rfl⟩
        have hst := sumL_at (f := clsAt xs) hlt
        rw [hLi, clsAt_eq hi, hq] at hst
        have hqb := cls_bd xs[i]
        rw [hq] at hqb
        have HQ := Lib.hid hq
        have HST := Lib.hid hst
        have hok := vlTest_ok HV.out i hi
        have HOK := Lib.hid hok
        obtain ⟨s, hs⟩ : ∃ s, sumL (clsAt xs) L k = s := ⟨_, rfl⟩
        rw [hs] at hsb ⊢
        have HS := Lib.hid hs
        clear hq hst hok hLi hs
        go_wp2_with (go_at_call 29; refine (Calls.intIs HQ.out (l08Class_any xs[i] b (i * 5) _ e0 e1 e2 e3 e4 HOK.out)).mono ?_; rintro e w3 ⟨rfl, hb3⟩)
        go_roundw
        case rel => exact ⟨k + 1, by omega, by go_num, vint (by rw [HST.out, HS.out]), Bel.trans hbel hb3⟩
        case measure => simp [intOf]; omega
      · have hke : k = L.length := by omega
        have hex : decide ((k : Int) < (L.length : Int)) = false := decide_eq_false (by omega)
        obtain ⟨s, hs⟩ : ∃ s, sumL (clsAt xs) L k = s := ⟨_, rfl⟩
        rw [hs] at hsb ⊢
        rw [hke] at hs
        have HS := Lib.hid hs
        have hbt := Bel.trans hb1 hbel
        clear hke hs
        go_wp2_with (go_at_call 31; refine (l01Div_any _ _ _ (by omega) (by omega) (by omega) (by omega)).mono ?_; rintro e w' ⟨rfl, rfl⟩)
        go_ret2
        exact ⟨by rw [mcRes_0 HC0.out HL.out H0.out HS.out]; rfl, hbt⟩
end Go.Proofs.Ytlicpgmcnebpmaa
