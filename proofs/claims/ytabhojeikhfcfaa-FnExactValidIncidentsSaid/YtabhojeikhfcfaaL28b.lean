/- Chapter 28: valid lists of incidents; the rate of a level; the share of the buried; the worst one. -/
import Derived.Test.YtabhojeikhfcfaaL28
import Derived.Test.YtabhojeikhfcfaaAllW
import Derived.Test.YtabhojeikhfcfaaLst
namespace Go.Proofs.Ytabhojeikhfcfaa
open Go.RowKit
set_option maxHeartbeats 400000
set_option maxRecDepth 100000
theorem ValidIncidents_any (xs : List SIncident) (b c : Nat) (w : World) (A : Arr SIncident.cells 6 w b xs) (hn : xs.length ≤ 1048576) (hf : ∀ i (h : i < xs.length), xs[i].Place.size ≤ 9223372036854775807 ∧ xs[i].Cause.size ≤ 9223372036854775807) :
    Calls Try.prog 24 #[.slice (some ⟨b, 0, none⟩) xs.length c] w fun e w' => e = .returned (.bool (vlIncident xs)) ∧ Below w.heap.size w w' := by
  have HF := Lib.hid hf
  clear hf
  have hb := A.1
  by_cases hl : 48 < xs.length
  · go_enter Try.func24, Try.ntmps24
    go_wp2
    go_ret
    exact ⟨ret_bool (by rw [vlIncident, decide_eq_false (by omega), Bool.and_false]), Below.refl _ _⟩
  · go_enter Try.func24, Try.ntmps24
    go_wp2
    go_loopw [10] (fun i wr => ∃ k : Nat, k ≤ xs.length ∧ i = .int .i64 k ∧ Below w.heap.size w wr ∧ (List.range k).all (atIncident xs) = true) (fun i wr => xs.length - (intOf i).toNat)
    case atStart => exact ⟨0, by omega, rfl, Below.refl _ _, rfl⟩
    case round =>
      obtain ⟨k, hk, rfl, hbel, hall⟩ := hrel
      have HA := Lib.hid hall
      clear hall
      by_cases hlt : k < xs.length
      · obtain ⟨e0, e1, e2, e3, e4, e5⟩ := SIncident.elem (A.below hbel) hlt
        go_wp2_with fail
        refine wp_alloc_out ?_
        intro W hbw hsz hcl hfz
        clear e0 e1 e2 e3 e4 e5
        have hlw : wr.heap.size < W.heap.size := by omega
        obtain ⟨p0, p1, p2, p3, p4, p5⟩ := SIncident.past (x := xs[k]) hcl hlw
        clear hcl hfz hsz
        have hbt := Bel.trans hbel hbw
        cases hv : okIncident xs[k]
        · have HV := Lib.hid hv
          clear hv
          refine wp_region_past (by kernel_rfl) (by kernel_rfl) ?_
          repeat (go_big_quiet_step ((go_at_call 46; exact Past.callB _ HV.out (validIncident_any xs[k] _ (HF.out k hlt)))))
          refine wpQuiet_nil ?_
          intro W1 hw'
          obtain ⟨⟨W_, hb1⟩, hw''⟩ := hw'
          subst hw''
          go_wp2
          go_ret
          exact ⟨ret_bool (by rw [vlIncident_no hlt (atIncident_bad hlt HV.out)]), Bel.trans hbt hb1⟩
        · have HV := Lib.hid hv
          clear hv
          by_cases h0 : k = 0
          · have hz : decide (0 < k) = false := by simp; omega
            have H0 := Lib.hid h0
            clear h0
            refine wp_region_past (by kernel_rfl) (by kernel_rfl) ?_
            repeat (go_big_quiet_step ((go_at_call 46; exact Past.callB _ HV.out (validIncident_any xs[k] _ (HF.out k hlt)))))
            refine wpQuiet_nil ?_
            intro W1 hw'
            obtain ⟨⟨W_, hb1⟩, hw''⟩ := hw'
            subst hw''
            go_wp2
            go_roundw
            case rel => exact ⟨k+1, by omega, by go_num, Bel.trans hbt hb1, all_range_snoc HA.out (atIncident_0 hlt HV.out H0.out)⟩
            case measure => simp [intOf]; omega
          · have hz : 0 < k := by omega
            have hz1 : (1 : Int) ≤ (k : Int) := by omega
            have hz2 : IntKind.i64.wrap ((k : Int) - 1) = (k : Int) - 1 := IntWalk.i64_in _ (by omega)
            have hz3 : ((k : Int) - 1).toNat = k - 1 := by omega
            obtain ⟨f0, f1, f2, f3, f4, f5⟩ := SIncident.elems (A.below hbt) (show k - 1 < xs.length by omega)
            cases hcm : ltIncident (xs[k-1]) xs[k]
            · have HC := Lib.hid hcm; obtain ⟨c', hce⟩ : ∃ c, cmpIncident (xs[k-1]) xs[k] = c := ⟨_, rfl⟩; have hc0 : 0 ≤ c' := (by rw [ltIncident, hce] at hcm; simpa using hcm); have HE := Lib.hid hce; clear hce hcm
              refine wp_region_past (by kernel_rfl) (by kernel_rfl) ?_
              repeat (go_big_quiet_step ((first | (go_at_call 46; exact Past.callB _ HV.out (validIncident_any xs[k] _ (HF.out k hlt))) | (go_at_call 47; exact Past.callI _ HE.out (compareIncidents_any (xs[k-1]) xs[k] _)))))
              refine wpQuiet_nil ?_
              intro W1 hw'
              obtain ⟨⟨W_, hb1⟩, hw''⟩ := hw'
              subst hw''
              go_wp2
              go_ret
              exact ⟨ret_bool (by rw [vlIncident_no hlt (atIncident_no hlt hz HC.out)]), Bel.trans hbt hb1⟩
            · have HC := Lib.hid hcm; obtain ⟨c', hce⟩ : ∃ c, cmpIncident (xs[k-1]) xs[k] = c := ⟨_, rfl⟩; have hc0 : c' < 0 := (by rw [ltIncident, hce] at hcm; simpa using hcm); have HE := Lib.hid hce; clear hce hcm
              refine wp_region_past (by kernel_rfl) (by kernel_rfl) ?_
              repeat (go_big_quiet_step ((first | (go_at_call 46; exact Past.callB _ HV.out (validIncident_any xs[k] _ (HF.out k hlt))) | (go_at_call 47; exact Past.callI _ HE.out (compareIncidents_any (xs[k-1]) xs[k] _)))))
              refine wpQuiet_nil ?_
              intro W1 hw'
              obtain ⟨⟨W_, hb1⟩, hw''⟩ := hw'
              subst hw''
              go_wp2
              go_roundw
              case rel => exact ⟨k+1, by omega, by go_num, Bel.trans hbt hb1, all_range_snoc HA.out (atIncident_ok hlt HV.out HC.out)⟩
              case measure => simp [intOf]; omega
      · obtain rfl : k = xs.length := by omega
        go_wp2
        go_ret
        exact ⟨ret_bool (by rw [vlIncident, HA.out, decide_eq_true (by omega)]; rfl), hbel⟩
theorem l28Ok_any (xs : List SIncident) (b c : Nat) (w : World) (A : Arr SIncident.cells 6 w b xs) (hn : xs.length ≤ 1048576) (hf : ∀ i (h : i < xs.length), xs[i].Place.size ≤ 9223372036854775807 ∧ xs[i].Cause.size ≤ 9223372036854775807) :
    Calls Try.prog 30 #[.slice (some ⟨b, 0, none⟩) xs.length c] w fun e w' => e = .returned (.bool (vlIncident xs)) ∧ Below w.heap.size w w' := by
  have HF := Lib.hid hf
  clear hf
  have hb := A.1
  go_enter Try.func30, Try.ntmps30
  go_wp2_with fail
  go_loopw [3] (fun i wr => ∃ k : Nat, k ≤ xs.length ∧ i = .int .i64 k ∧ Below w.heap.size w wr ∧ (List.range k).all (atIncident xs) = true) (fun i wr => xs.length - (intOf i).toNat)
  case atStart => exact ⟨0, by omega, rfl, Below.refl _ _, rfl⟩
  case round =>
    obtain ⟨k, hk, rfl, hbel, hall⟩ := hrel
    have HA := Lib.hid hall
    clear hall
    by_cases hlt : k < xs.length
    · obtain ⟨p0, p1, p2, p3, p4, p5⟩ := SIncident.elems (A.below hbel) hlt
      go_wp2_with fail
      have hwf : ∀ p : Past wr, Calls Try.prog 50 #[.pointer (some ⟨b, k * 6, none⟩)] p.w fun e w' => e = .returned (.bool (okIncident xs[k])) ∧ Below p.w.heap.size p.w w' := fun p => l28One_any xs[k] b (k * 6) p.w (p0 p) (p1 p) (p2 p) (p3 p) (p4 p) (p5 p) (HF.out k hlt)
      have HP := Lib.hid hwf
      clear hwf
      cases hv : okIncident xs[k]
      · have HV := Lib.hid hv
        clear hv
        refine wp_region_past (by kernel_rfl) (by kernel_rfl) ?_
        repeat (go_big_quiet_step ((go_at_call 50; exact Past.callB _ HV.out (HP.out _))))
        refine wpQuiet_nil ?_
        intro W1 hw'
        obtain ⟨⟨W_, hb1⟩, hw''⟩ := hw'
        subst hw''
        go_wp2
        go_ret
        exact ⟨ret_bool (by rw [vlIncident_no hlt (atIncident_bad hlt HV.out)]), Bel.trans hbel hb1⟩
      · have HV := Lib.hid hv
        clear hv
        by_cases h0 : k = 0
        · have hz : decide (0 < k) = false := by simp; omega
          have H0 := Lib.hid h0
          clear h0
          refine wp_region_past (by kernel_rfl) (by kernel_rfl) ?_
          repeat (go_big_quiet_step ((go_at_call 50; exact Past.callB _ HV.out (HP.out _))))
          refine wpQuiet_nil ?_
          intro W1 hw'
          obtain ⟨⟨W_, hb1⟩, hw''⟩ := hw'
          subst hw''
          go_wp2
          go_roundw
          case rel => exact ⟨k+1, by omega, by go_num, Bel.trans hbel hb1, all_range_snoc HA.out (atIncident_0 hlt HV.out H0.out)⟩
          case measure => simp [intOf]; omega
        · have hz : 0 < k := by omega
          have hz1 : (1 : Int) ≤ (k : Int) := by omega
          have hz2 : IntKind.i64.wrap ((k : Int) - 1) = (k : Int) - 1 := IntWalk.i64_in _ (by omega)
          have hz3 : ((k : Int) - 1).toNat = k - 1 := by omega
          obtain ⟨f0, f1, f2, f3, f4, f5⟩ := SIncident.elems (A.below hbel) (show k - 1 < xs.length by omega)
          cases hcm : ltIncident (xs[k-1]) xs[k]
          · have HC := Lib.hid hcm; clear hcm; have hwb : ∀ p : Past wr, Calls Try.prog 51 #[.pointer (some ⟨b, (k-1)*6, none⟩), .pointer (some ⟨b, k*6, none⟩)] p.w fun e w' => e = .returned (.bool (ltIncident (xs[k-1]) xs[k])) ∧ Below p.w.heap.size p.w w' := fun p => l28Before_any (xs[k-1]) xs[k] b ((k-1)*6) b (k*6) p.w (f0 p) (f1 p) (f2 p) (f3 p) (f4 p) (f5 p) (p0 p) (p1 p) (p2 p) (p3 p) (p4 p) (p5 p); have HB2 := Lib.hid hwb; clear hwb
            refine wp_region_past (by kernel_rfl) (by kernel_rfl) ?_
            repeat (go_big_quiet_step ((first | (go_at_call 50; exact Past.callB _ HV.out (HP.out _)) | (go_at_call 51; exact Past.callB _ HC.out (HB2.out _)))))
            refine wpQuiet_nil ?_
            intro W1 hw'
            obtain ⟨⟨W_, hb1⟩, hw''⟩ := hw'
            subst hw''
            go_wp2
            go_ret
            exact ⟨ret_bool (by rw [vlIncident_no hlt (atIncident_no hlt hz HC.out)]), Bel.trans hbel hb1⟩
          · have HC := Lib.hid hcm; clear hcm; have hwb : ∀ p : Past wr, Calls Try.prog 51 #[.pointer (some ⟨b, (k-1)*6, none⟩), .pointer (some ⟨b, k*6, none⟩)] p.w fun e w' => e = .returned (.bool (ltIncident (xs[k-1]) xs[k])) ∧ Below p.w.heap.size p.w w' := fun p => l28Before_any (xs[k-1]) xs[k] b ((k-1)*6) b (k*6) p.w (f0 p) (f1 p) (f2 p) (f3 p) (f4 p) (f5 p) (p0 p) (p1 p) (p2 p) (p3 p) (p4 p) (p5 p); have HB2 := Lib.hid hwb; clear hwb
            refine wp_region_past (by kernel_rfl) (by kernel_rfl) ?_
            repeat (go_big_quiet_step ((first | (go_at_call 50; exact Past.callB _ HV.out (HP.out _)) | (go_at_call 51; exact Past.callB _ HC.out (HB2.out _)))))
            refine wpQuiet_nil ?_
            intro W1 hw'
            obtain ⟨⟨W_, hb1⟩, hw''⟩ := hw'
            subst hw''
            go_wp2
            go_roundw
            case rel => exact ⟨k+1, by omega, by go_num, Bel.trans hbel hb1, all_range_snoc HA.out (atIncident_ok hlt HV.out HC.out)⟩
            case measure => simp [intOf]; omega
    · obtain rfl : k = xs.length := by omega
      go_wp2
      go_ret
      exact ⟨ret_bool (by rw [vlIncident, HA.out, Bool.true_and]; simp <;> omega), hbel⟩
theorem okIncident_bd {x : SIncident} (h : okIncident x = true) : 0 ≤ x.Day ∧ x.Day ≤ 36524 ∧ 1 ≤ x.Level ∧ x.Level ≤ 5 ∧ 0 ≤ x.Caught ∧ x.Caught ≤ 20 ∧ 0 ≤ x.Buried ∧ x.Buried ≤ x.Caught := by simp [okIncident, inr] at h; omega
def qLev (l : Int) (x : SIncident) : Bool := x.Level == l
def rate (xs : List SIncident) (l d : Int) : Int := rdiv (1000 * (cntL (qLev l) xs xs.length : Int)) d
theorem rateOf_any (xs : List SIncident) (b c : Nat) (l d : Int) (w : World) (A : Arr SIncident.cells 6 w b xs) (hn : xs.length ≤ 48) (hd : inr 1 1000 d = true) :
    Calls Try.prog 42 #[.slice (some ⟨b, 0, none⟩) xs.length c, .int .i64 l, .int .i64 d] w fun e w' => e = .returned (.int .i64 (rate xs l d)) ∧ Below w.heap.size w w' := by
  have HA := Lib.hid A
  obtain ⟨hd0, hd1⟩ := inr_bd' hd
  clear A hd
  go_enter Try.func42, Try.ntmps42
  go_wp2_with fail
  go_loopw [7, 12] (fun m i wr => ∃ k : Nat, k ≤ xs.length ∧ i = .int .i64 k ∧ m = .int .i64 (cntL (qLev l) xs k) ∧ Below w.heap.size w wr) (fun _ i wr => xs.length - (intOf i).toNat)
  case atStart => exact ⟨0, by omega, rfl, rfl, Below.refl _ _⟩
  case round =>
    obtain ⟨k, hk, rfl, rfl, hbel⟩ := hrel
    have hle := cntL_le (qLev l) xs k
    by_cases hlt : k < xs.length
    · obtain ⟨e0, e1, e2, e3, e4, e5⟩ := SIncident.elem (HA.out.below hbel) hlt
      cases hq : (xs[k].Level == l)
      · go_wp2
        go_roundw
        case rel => exact ⟨k + 1, by omega, by go_num, by rw [cntL_no hlt hq], (by repeat (first | (with_reducible assumption) | (with_reducible exact Below.refl _ _) | (with_reducible refine Bel.alloc ?_ _) | (with_reducible refine Below.drew ?_) | (with_reducible refine Bel.drewN ?_ _) | (with_reducible refine Bel.setCell ?_ (by (try simp) <;> omega) _) | (with_reducible refine Bel.trans ?_ (by assumption))))⟩
        case measure => simp [intOf]; omega
      · go_wp2
        go_roundw
        case rel => exact ⟨k + 1, by omega, by go_num, by rw [cntL_yes hlt hq]; go_num, (by repeat (first | (with_reducible assumption) | (with_reducible exact Below.refl _ _) | (with_reducible refine Bel.alloc ?_ _) | (with_reducible refine Below.drew ?_) | (with_reducible refine Bel.drewN ?_ _) | (with_reducible refine Bel.setCell ?_ (by (try simp) <;> omega) _) | (with_reducible refine Bel.trans ?_ (by assumption))))⟩
        case measure => simp [intOf]; omega
    · obtain rfl : k = xs.length := by omega
      go_wp2_with fail
      refine (divRound_any _ _ _ (by omega) (by omega) (by omega) (by omega)).mono ?_; rintro e w' ⟨rfl, n, rfl⟩
      go_wp2
      go_ret
      exact ⟨rfl, (by repeat (first | (with_reducible assumption) | (with_reducible exact Below.refl _ _) | (with_reducible refine Bel.alloc ?_ _) | (with_reducible refine Below.drew ?_) | (with_reducible refine Bel.drewN ?_ _) | (with_reducible refine Bel.setCell ?_ (by (try simp) <;> omega) _) | (with_reducible refine Bel.trans ?_ (by assumption))))⟩
theorem l28Rate_any (xs : List SIncident) (b c : Nat) (l d : Int) (w : World) (A : Arr SIncident.cells 6 w b xs) (hn : xs.length ≤ 48) (hd : inr 1 1000 d = true) :
    Calls Try.prog 40 #[.slice (some ⟨b, 0, none⟩) xs.length c, .int .i64 l, .int .i64 d] w fun e w' => e = .returned (.int .i64 (rate xs l d)) ∧ Below w.heap.size w w' := by
  have HA := Lib.hid A
  obtain ⟨hd0, hd1⟩ := inr_bd' hd
  clear A hd
  go_enter Try.func40, Try.ntmps40
  go_wp2_with fail
  go_loopw [7, 8] (fun m i wr => ∃ k : Nat, k ≤ xs.length ∧ i = .int .i64 k ∧ m = .int .i64 (cntL (qLev l) xs k) ∧ Below w.heap.size w wr) (fun _ i wr => xs.length - (intOf i).toNat)
  case atStart => exact ⟨0, by omega, rfl, rfl, Below.refl _ _⟩
  case round =>
    obtain ⟨k, hk, rfl, rfl, hbel⟩ := hrel
    have hle := cntL_le (qLev l) xs k
    by_cases hlt : k < xs.length
    · obtain ⟨e0, e1, e2, e3, e4, e5⟩ := SIncident.elem (HA.out.below hbel) hlt
      cases hq : (xs[k].Level == l)
      · go_wp2
        go_roundw
        case rel => exact ⟨k + 1, by omega, by go_num, by rw [cntL_no hlt hq], (by repeat (first | (with_reducible assumption) | (with_reducible exact Below.refl _ _) | (with_reducible refine Bel.alloc ?_ _) | (with_reducible refine Below.drew ?_) | (with_reducible refine Bel.drewN ?_ _) | (with_reducible refine Bel.setCell ?_ (by (try simp) <;> omega) _) | (with_reducible refine Bel.trans ?_ (by assumption))))⟩
        case measure => simp [intOf]; omega
      · go_wp2
        go_roundw
        case rel => exact ⟨k + 1, by omega, by go_num, by rw [cntL_yes hlt hq]; go_num, (by repeat (first | (with_reducible assumption) | (with_reducible exact Below.refl _ _) | (with_reducible refine Bel.alloc ?_ _) | (with_reducible refine Below.drew ?_) | (with_reducible refine Bel.drewN ?_ _) | (with_reducible refine Bel.setCell ?_ (by (try simp) <;> omega) _) | (with_reducible refine Bel.trans ?_ (by assumption))))⟩
        case measure => simp [intOf]; omega
    · obtain rfl : k = xs.length := by omega
      go_wp2_with fail
      refine (l01Div_any _ _ _ (by omega) (by omega) (by omega) (by omega)).mono ?_; rintro e w' ⟨rfl, rfl⟩
      go_wp2
      go_ret
      exact ⟨rfl, (by repeat (first | (with_reducible assumption) | (with_reducible exact Below.refl _ _) | (with_reducible refine Bel.alloc ?_ _) | (with_reducible refine Below.drew ?_) | (with_reducible refine Bel.drewN ?_ _) | (with_reducible refine Bel.setCell ?_ (by (try simp) <;> omega) _) | (with_reducible refine Bel.trans ?_ (by assumption))))⟩
theorem daysOk_any (n : Int) (w : World) : Calls Try.prog 45 #[.int .i64 n] w fun e w' => e = .returned (.bool (inr 1 1000 n)) ∧ w = w' := by
  go_enter Try.func45, Try.ntmps45
  go_wp2_with (go_at_call 38; refine (within_any _ _ _ _).mono ?_; rintro e w' ⟨rfl, rfl⟩)
  go_ret
  exact ⟨rfl, rfl⟩
theorem l28Days_any (n : Int) (w : World) : Calls Try.prog 39 #[.int .i64 n] w fun e w' => e = .returned (.bool (inr 1 1000 n)) ∧ w = w' := by
  go_enter Try.func39, Try.ntmps39
  go_wp2_with (go_at_call 53; refine (l00In_any _ _ _ _).mono ?_; rintro e w' ⟨rfl, rfl⟩)
  go_ret
  exact ⟨rfl, rfl⟩
def rateRes (xs : List SIncident) (l d : Int) : Int × Int := if vlIncident xs then (if inr 1 5 l && inr 1 1000 d then (rate xs l d, 0) else (0, 2)) else (0, 1)
theorem RateOf_any (xs : List SIncident) (b c : Nat) (l d : Int) (w : World) (A : Arr SIncident.cells 6 w b xs) (hn : xs.length ≤ 1048576) (hf : ∀ i (h : i < xs.length), xs[i].Place.size ≤ 9223372036854775807 ∧ xs[i].Cause.size ≤ 9223372036854775807) :
    Calls Try.prog 22 #[.slice (some ⟨b, 0, none⟩) xs.length c, .int .i64 l, .int .i64 d] w fun e w' => e = .returned (.tuple #[.int .i64 (rateRes xs l d).1, .int .i64 (rateRes xs l d).2]) ∧ Below w.heap.size w w' := by
  have HA := Lib.hid A
  have HF := Lib.hid hf
  clear A hf
  go_enter Try.func22, Try.ntmps22
  go_wp2_with (first | (go_at_call 24; refine (ValidIncidents_any xs b c _ HA.out hn HF.out).mono ?_; rintro e w1 ⟨rfl, hb1⟩) | (go_at_call 44; refine (levelOk_any _ _).mono ?_; rintro e w' ⟨rfl, rfl⟩) | (go_at_call 45; refine (daysOk_any _ _).mono ?_; rintro e w' ⟨rfl, rfl⟩) | (go_at_call 42; refine (rateOf_any xs b c l d _ (HA.out.below hb1) (vlIncident_len (by first | assumption | exact not_f (by assumption) | exact not_t (by assumption))) (by first | assumption | exact not_f (by assumption) | exact not_t (by assumption))).mono ?_; rintro e w2 ⟨rfl, hb2⟩))
  all_goals
    go_ret2
    exact ⟨ret_int2 (by (try simp only [Bool.not_eq_true', Bool.not_eq_false', Bool.not_eq_true] at *); simp [rateRes, *]) (by (try simp only [Bool.not_eq_true', Bool.not_eq_false', Bool.not_eq_true] at *); simp [rateRes, *]), (by repeat (first | (with_reducible assumption) | (with_reducible exact Below.refl _ _) | (with_reducible refine Bel.alloc ?_ _) | (with_reducible refine Below.drew ?_) | (with_reducible refine Bel.drewN ?_ _) | (with_reducible refine Bel.setCell ?_ (by (try simp) <;> omega) _) | (with_reducible refine Bel.trans ?_ (by assumption))))⟩
theorem sRateOf_any (xs : List SIncident) (b c : Nat) (l d : Int) (w : World) (A : Arr SIncident.cells 6 w b xs) (hn : xs.length ≤ 1048576) (hf : ∀ i (h : i < xs.length), xs[i].Place.size ≤ 9223372036854775807 ∧ xs[i].Cause.size ≤ 9223372036854775807) :
    Calls Try.prog 21 #[.slice (some ⟨b, 0, none⟩) xs.length c, .int .i64 l, .int .i64 d] w fun e w' => e = .returned (.tuple #[.int .i64 (rateRes xs l d).1, .int .i64 (rateRes xs l d).2]) ∧ Below w.heap.size w w' := by
  have HA := Lib.hid A
  have HF := Lib.hid hf
  clear A hf
  go_enter Try.func21, Try.ntmps21
  go_wp2_with (first | (go_at_call 30; refine (l28Ok_any xs b c _ HA.out hn HF.out).mono ?_; rintro e w1 ⟨rfl, hb1⟩) | (go_at_call 43; refine (l17Is_any _ _).mono ?_; rintro e w' ⟨rfl, rfl⟩) | (go_at_call 39; refine (l28Days_any _ _).mono ?_; rintro e w' ⟨rfl, rfl⟩) | (go_at_call 40; refine (l28Rate_any xs b c l d _ (HA.out.below hb1) (vlIncident_len (by first | assumption | exact not_f (by assumption) | exact not_t (by assumption))) (by first | assumption | exact not_f (by assumption) | exact not_t (by assumption))).mono ?_; rintro e w2 ⟨rfl, hb2⟩))
  all_goals
    go_ret2
    exact ⟨ret_int2 (by (try simp only [Bool.not_eq_true', Bool.not_eq_false', Bool.not_eq_true] at *); simp [rateRes, *]) (by (try simp only [Bool.not_eq_true', Bool.not_eq_false', Bool.not_eq_true] at *); simp [rateRes, *]), (by repeat (first | (with_reducible assumption) | (with_reducible exact Below.refl _ _) | (with_reducible refine Bel.alloc ?_ _) | (with_reducible refine Below.drew ?_) | (with_reducible refine Bel.drewN ?_ _) | (with_reducible refine Bel.setCell ?_ (by (try simp) <;> omega) _) | (with_reducible refine Bel.trans ?_ (by assumption))))⟩
end Go.Proofs.Ytabhojeikhfcfaa
