/- Chapter 4: valid observations, the place of an hour: the walks. -/
import Derived.Test.YtcjalooaikfkbaaL04p
import Derived.Test.YtcjalooaikfkbaaCmp
namespace Go.Proofs.Ytcjalooaikfkbaa
set_option linter.unusedSimpArgs false
set_option linter.unusedVariables false
open Go.RowKit
set_option maxHeartbeats 400000
set_option maxRecDepth 100000
theorem hourOk_any (n : Int) (w : World) : Calls Try.prog 78 #[.int .i64 n] w fun e w' => e = .returned (.bool (inr 0 100000 n)) ∧ w = w' := by
  go_enter Try.func78, Try.ntmps78
  go_wp2_with (go_at_call 43; refine (within_any _ _ _ _).mono ?_; rintro e w' ⟨rfl, rfl⟩)
  go_ret
  exact ⟨rfl, rfl⟩
theorem l04Hour_any (n : Int) (w : World) : Calls Try.prog 107 #[.int .i64 n] w fun e w' => e = .returned (.bool (inr 0 100000 n)) ∧ w = w' := by
  go_enter Try.func107, Try.ntmps107
  go_wp2_with (go_at_call 108; refine (l00In_any _ _ _ _).mono ?_; rintro e w' ⟨rfl, rfl⟩)
  go_ret
  exact ⟨rfl, rfl⟩
theorem validObserved_any (x : SObserved) (w : World) : Calls Try.prog 99 #[.agg #[.int .i64 x.Hour, .int .i64 x.Snow, .int .i64 x.Degrees, .int .i64 x.Wind]] w fun e w' => e = .returned (.bool (okObserved x)) ∧ Below w.heap.size w w' := by
  go_enter Try.func99, Try.ntmps99
  go_wp2_with (first | (go_at_call 78; refine (hourOk_any _ _).mono ?_; rintro e w' ⟨rfl, rfl⟩) | (go_at_call 43; refine (within_any _ _ _ _).mono ?_; rintro e w' ⟨rfl, rfl⟩))
  all_goals
    go_ret
    exact ⟨ret_bool (by simp_all [okObserved]), (by repeat (first | (with_reducible assumption) | (with_reducible exact Below.refl _ _) | (with_reducible refine Bel.alloc ?_ _) | (with_reducible refine Below.drew ?_) | (with_reducible refine Bel.drewN ?_ _) | (with_reducible refine Bel.setCell ?_ (by (try simp) <;> omega) _) | (with_reducible refine Bel.trans ?_ (by assumption))))⟩
theorem l04One_any (x : SObserved) (b o : Nat) (w : World) (p0 : w.cell? ⟨b, o, none⟩ = some (.int .i64 x.Hour)) (p1 : w.cell? ⟨b, o + 1, none⟩ = some (.int .i64 x.Snow)) (p2 : w.cell? ⟨b, o + 2, none⟩ = some (.int .i64 x.Degrees)) (p3 : w.cell? ⟨b, o + 3, none⟩ = some (.int .i64 x.Wind)) :
    Calls Try.prog 98 #[.pointer (some ⟨b, o, none⟩)] w fun e w' => e = .returned (.bool (okObserved x)) ∧ w = w' := by
  go_enter Try.func98, Try.ntmps98
  go_wp2_with (first | (go_at_call 107; refine (l04Hour_any _ _).mono ?_; rintro e w' ⟨rfl, rfl⟩) | (go_at_call 108; refine (l00In_any _ _ _ _).mono ?_; rintro e w' ⟨rfl, rfl⟩))
  all_goals
    go_ret
    exact ⟨ret_bool (by simp_all [okObserved]), rfl⟩
theorem ValidObserved_any (xs : List SObserved) (b c : Nat) (w : World) (A : Arr SObserved.cells 4 w b xs) (hn : xs.length ≤ 1048576) :
    Calls Try.prog 73 #[.slice (some ⟨b, 0, none⟩) xs.length c] w fun e w' => e = .returned (.bool (vlObserved xs)) ∧ Below w.heap.size w w' := by
  have hb := A.1
  by_cases hl : 48 < xs.length
  · go_enter Try.func73, Try.ntmps73
    go_wp2
    go_ret
    exact ⟨ret_bool (by rw [vlObserved, decide_eq_false (by omega), Bool.and_false]), Below.refl _ _⟩
  · go_enter Try.func73, Try.ntmps73
    go_wp2
    go_loopw [10] (fun i wr => ∃ k : Nat, k ≤ xs.length ∧ i = .int .i64 k ∧ Below w.heap.size w wr ∧ (List.range k).all (atObserved xs) = true) (fun i wr => xs.length - (intOf i).toNat)
    case atStart => exact ⟨0, by omega, rfl, Below.refl _ _, rfl⟩
    case round =>
      obtain ⟨k, hk, rfl, hbel, hall⟩ := hrel
      have HA := Lib.hid hall
      clear hall
      by_cases hlt : k < xs.length
      · obtain ⟨e0, e1, e2, e3⟩ := SObserved.elem (A.below hbel) hlt
        go_wp2_with fail
        refine wp_alloc_out ?_
        intro W hbw hsz hcl hfz
        clear e0 e1 e2 e3
        have hlw : wr.heap.size < W.heap.size := by omega
        obtain ⟨p0, p1, p2, p3⟩ := SObserved.past (x := xs[k]) hcl hlw
        clear hcl hfz hsz
        have hbt := Bel.trans hbel hbw
        cases hv : okObserved xs[k]
        · have HV := Lib.hid hv
          clear hv
          refine wp_region_past (by kernel_rfl) (by kernel_rfl) ?_
          repeat (go_big_quiet_step ((go_at_call 99; exact Past.callB _ HV.out (validObserved_any xs[k] _))))
          refine wpQuiet_nil ?_
          intro W1 hw'
          obtain ⟨⟨W_, hb1⟩, hw''⟩ := hw'
          subst hw''
          go_wp2
          go_ret
          exact ⟨ret_bool (by rw [vlObserved_no hlt (atObserved_bad hlt HV.out)]), Bel.trans hbt hb1⟩
        · have HV := Lib.hid hv
          clear hv
          by_cases h0 : k = 0
          · have hz : decide (0 < k) = false := by simp; omega
            have H0 := Lib.hid h0
            clear h0
            refine wp_region_past (by kernel_rfl) (by kernel_rfl) ?_
            repeat (go_big_quiet_step ((go_at_call 99; exact Past.callB _ HV.out (validObserved_any xs[k] _))))
            refine wpQuiet_nil ?_
            intro W1 hw'
            obtain ⟨⟨W_, hb1⟩, hw''⟩ := hw'
            subst hw''
            go_wp2
            go_roundw
            case rel => exact ⟨k+1, by omega, by go_num, Bel.trans hbt hb1, all_range_snoc HA.out (atObserved_0 hlt HV.out H0.out)⟩
            case measure => simp [intOf]; omega
          · have hz : 0 < k := by omega
            have hz1 : (1 : Int) ≤ (k : Int) := by omega
            have hz2 : IntKind.i64.wrap ((k : Int) - 1) = (k : Int) - 1 := IntWalk.i64_in _ (by omega)
            have hz3 : ((k : Int) - 1).toNat = k - 1 := by omega
            obtain ⟨f0, f1, f2, f3⟩ := SObserved.elems (A.below hbt) (show k - 1 < xs.length by omega)
            cases hcm : decide ((xs[k]).Hour ≤ (xs[k-1]).Hour)
            · have HC := Lib.hid hcm; have hc1 : (xs[k-1]).Hour < (xs[k]).Hour := (by simpa using hcm); clear hcm
              refine wp_region_past (by kernel_rfl) (by kernel_rfl) ?_
              repeat (go_big_quiet_step ((go_at_call 99; exact Past.callB _ HV.out (validObserved_any xs[k] _))))
              refine wpQuiet_nil ?_
              intro W1 hw'
              obtain ⟨⟨W_, hb1⟩, hw''⟩ := hw'
              subst hw''
              go_wp2
              go_roundw
              case rel => exact ⟨k+1, by omega, by go_num, Bel.trans hbt hb1, all_range_snoc HA.out (atObserved_ok hlt HV.out HC.out)⟩
              case measure => simp [intOf]; omega
            · have HC := Lib.hid hcm; have hc1 : (xs[k]).Hour ≤ (xs[k-1]).Hour := (by simpa using hcm); clear hcm
              refine wp_region_past (by kernel_rfl) (by kernel_rfl) ?_
              repeat (go_big_quiet_step ((go_at_call 99; exact Past.callB _ HV.out (validObserved_any xs[k] _))))
              refine wpQuiet_nil ?_
              intro W1 hw'
              obtain ⟨⟨W_, hb1⟩, hw''⟩ := hw'
              subst hw''
              go_wp2
              go_ret
              exact ⟨ret_bool (by rw [vlObserved_no hlt (atObserved_no hlt hz HC.out)]), Bel.trans hbt hb1⟩
      · obtain rfl : k = xs.length := by omega
        go_wp2
        go_ret
        exact ⟨ret_bool (by rw [vlObserved, HA.out, decide_eq_true (by omega)]; rfl), hbel⟩
theorem l04Ok_any (xs : List SObserved) (b c : Nat) (w : World) (A : Arr SObserved.cells 4 w b xs) (hn : xs.length ≤ 1048576) :
    Calls Try.prog 72 #[.slice (some ⟨b, 0, none⟩) xs.length c] w fun e w' => e = .returned (.bool (vlObserved xs)) ∧ Below w.heap.size w w' := by
  have hb := A.1
  go_enter Try.func72, Try.ntmps72
  go_wp2_with fail
  go_loopw [3] (fun i wr => ∃ k : Nat, k ≤ xs.length ∧ i = .int .i64 k ∧ Below w.heap.size w wr ∧ (List.range k).all (atObserved xs) = true) (fun i wr => xs.length - (intOf i).toNat)
  case atStart => exact ⟨0, by omega, rfl, Below.refl _ _, rfl⟩
  case round =>
    obtain ⟨k, hk, rfl, hbel, hall⟩ := hrel
    have HA := Lib.hid hall
    clear hall
    by_cases hlt : k < xs.length
    · obtain ⟨p0, p1, p2, p3⟩ := SObserved.elems (A.below hbel) hlt
      go_wp2_with fail
      have hwf : ∀ p : Past wr, Calls Try.prog 98 #[.pointer (some ⟨b, k * 4, none⟩)] p.w fun e w' => e = .returned (.bool (okObserved xs[k])) ∧ p.w = w' := fun p => l04One_any xs[k] b (k * 4) p.w (p0 p) (p1 p) (p2 p) (p3 p)
      have HP := Lib.hid hwf
      clear hwf
      cases hv : okObserved xs[k]
      · have HV := Lib.hid hv
        clear hv
        refine wp_region_past (by kernel_rfl) (by kernel_rfl) ?_
        repeat (go_big_quiet_step ((go_at_call 98; exact Past.sameB _ HV.out (HP.out _))))
        refine wpQuiet_nil ?_
        intro W1 hw'
        obtain ⟨⟨W_, hb1⟩, hw''⟩ := hw'
        subst hw''
        go_wp2
        go_ret
        exact ⟨ret_bool (by rw [vlObserved_no hlt (atObserved_bad hlt HV.out)]), Bel.trans hbel hb1⟩
      · have HV := Lib.hid hv
        clear hv
        by_cases h0 : k = 0
        · have hz : decide (0 < k) = false := by simp; omega
          have H0 := Lib.hid h0
          clear h0
          refine wp_region_past (by kernel_rfl) (by kernel_rfl) ?_
          repeat (go_big_quiet_step ((go_at_call 98; exact Past.sameB _ HV.out (HP.out _))))
          refine wpQuiet_nil ?_
          intro W1 hw'
          obtain ⟨⟨W_, hb1⟩, hw''⟩ := hw'
          subst hw''
          go_wp2
          go_roundw
          case rel => exact ⟨k+1, by omega, by go_num, Bel.trans hbel hb1, all_range_snoc HA.out (atObserved_0 hlt HV.out H0.out)⟩
          case measure => simp [intOf]; omega
        · have hz : 0 < k := by omega
          have hz1 : (1 : Int) ≤ (k : Int) := by omega
          have hz2 : IntKind.i64.wrap ((k : Int) - 1) = (k : Int) - 1 := IntWalk.i64_in _ (by omega)
          have hz3 : ((k : Int) - 1).toNat = k - 1 := by omega
          obtain ⟨f0, f1, f2, f3⟩ := SObserved.elems (A.below hbel) (show k - 1 < xs.length by omega)
          cases hcm : decide ((xs[k]).Hour ≤ (xs[k-1]).Hour)
          · have HC := Lib.hid hcm; have hc1 : (xs[k-1]).Hour < (xs[k]).Hour := (by simpa using hcm); clear hcm
            refine wp_region_past (by kernel_rfl) (by kernel_rfl) ?_
            repeat (go_big_quiet_step ((go_at_call 98; exact Past.sameB _ HV.out (HP.out _))))
            refine wpQuiet_nil ?_
            intro W1 hw'
            obtain ⟨⟨W_, hb1⟩, hw''⟩ := hw'
            subst hw''
            go_wp2
            go_roundw
            case rel => exact ⟨k+1, by omega, by go_num, Bel.trans hbel hb1, all_range_snoc HA.out (atObserved_ok hlt HV.out HC.out)⟩
            case measure => simp [intOf]; omega
          · have HC := Lib.hid hcm; have hc1 : (xs[k]).Hour ≤ (xs[k-1]).Hour := (by simpa using hcm); clear hcm
            refine wp_region_past (by kernel_rfl) (by kernel_rfl) ?_
            repeat (go_big_quiet_step ((go_at_call 98; exact Past.sameB _ HV.out (HP.out _))))
            refine wpQuiet_nil ?_
            intro W1 hw'
            obtain ⟨⟨W_, hb1⟩, hw''⟩ := hw'
            subst hw''
            go_wp2
            go_ret
            exact ⟨ret_bool (by rw [vlObserved_no hlt (atObserved_no hlt hz HC.out)]), Bel.trans hbel hb1⟩
    · obtain rfl : k = xs.length := by omega
      go_wp2
      go_ret
      exact ⟨ret_bool (by rw [vlObserved, HA.out, Bool.true_and]; simp <;> omega), hbel⟩
theorem hourBefore_any (x : SObserved) (h : Int) (w : World) : Calls Try.prog 75 #[.agg #[.int .i64 x.Hour, .int .i64 x.Snow, .int .i64 x.Degrees, .int .i64 x.Wind], .int .i64 h] w fun e w' => e = .returned (.int .i64 (cmpI x.Hour h)) ∧ Below w.heap.size w w' := by
  go_enter Try.func75, Try.ntmps75
  go_wp2_with (go_at_call 100; refine (compareI_any _ _ _).mono ?_; rintro e w' ⟨rfl, rfl⟩)
  go_ret
  exact ⟨rfl, (by repeat (first | (with_reducible assumption) | (with_reducible exact Below.refl _ _) | (with_reducible refine Bel.alloc ?_ _) | (with_reducible refine Below.drew ?_) | (with_reducible refine Bel.drewN ?_ _) | (with_reducible refine Bel.setCell ?_ (by (try simp) <;> omega) _) | (with_reducible refine Bel.trans ?_ (by assumption))))⟩
theorem cmpI_low {a b : Int} (h : a < b) : cmpI a b = -1 := by rw [cmpI, if_pos h]
theorem cmpI_nlow {a b : Int} (h : ¬ a < b) : 0 ≤ cmpI a b := by rw [cmpI, if_neg h]; split <;> omega
theorem cmpI_eq0 {a b : Int} : (cmpI a b == 0) = (a == b) := by
  unfold cmpI
  by_cases h1 : a < b
  · rw [if_pos h1]
    have : (a == b) = false := beq_eq_false_iff_ne.mpr (by omega)
    rw [this]; rfl
  · by_cases h2 : b < a
    · rw [if_neg h1, if_pos h2]
      have : (a == b) = false := beq_eq_false_iff_ne.mpr (by omega)
      rw [this]; rfl
    · rw [if_neg h1, if_neg h2]
      have : (a == b) = true := beq_iff_eq.mpr (by omega)
      rw [this]; rfl
theorem bins_any (xs : List SObserved) (b c : Nat) (h : Int) (w : World) (A : Arr SObserved.cells 4 w b xs) (hv : vlObserved xs = true) :
    Calls Try.prog 74 #[.slice (some ⟨b, 0, none⟩) xs.length c, .int .i64 h, .func (.func 75) #[] #[]] w fun e w' => e = .returned (.tuple #[.int .i64 (posL xs h : Int), .bool (hasL xs h)]) ∧ Below w.heap.size w w' := by
  have HA := Lib.hid A
  have hlen := vlObserved_len hv
  have HV := Lib.hid hv
  clear A hv
  go_enter Try.func74, Try.ntmps74
  go_wp2_with fail
  go_loopw [9, 10] (fun i j wr => ∃ p q : Nat, p ≤ q ∧ q ≤ xs.length ∧ i = .int .i64 p ∧ j = .int .i64 q ∧ (∀ m (hm : m < xs.length), m < p → xs[m].Hour < h) ∧ (∀ m (hm : m < xs.length), q ≤ m → h ≤ xs[m].Hour) ∧ Below w.heap.size w wr) (fun i j wr => (intOf j - intOf i).toNat)
  case atStart => exact ⟨0, xs.length, by omega, by omega, rfl, rfl, fun m _ hm => absurd hm (Nat.not_lt_zero m), fun m hm hq => absurd hq (by omega), Below.refl _ _⟩
  case round =>
    obtain ⟨p, q, hpq, hqn, rfl, rfl, hlo, hhi, hbel⟩ := hrel
    have HL := Lib.hid hlo
    have HH := Lib.hid hhi
    clear hlo hhi
    by_cases hlt : p < q
    · obtain ⟨m, hmid, hpm, hmq⟩ : ∃ m : Nat, ((p : Int) + (q : Int)) / 2 = (m : Int) ∧ p ≤ m ∧ m < q := ⟨(p + q) / 2, by omega, by omega, by omega⟩
      have hmx : m < xs.length := by omega
      obtain ⟨e0, e1, e2, e3⟩ := SObserved.elem (HA.out.below hbel) hmx
      by_cases hc : xs[m].Hour < h
      · have hcv := cmpI_low hc
        have HCV := Lib.hid hcv
        have HC := Lib.hid hc
        clear hcv hc
        go_wp2_with fail
        refine (Calls.intIs HCV.out (hourBefore_any xs[m] h _)).mono ?_
        rintro e w2 ⟨rfl, hb2⟩
        go_wp2
        go_roundw
        case rel => exact ⟨m + 1, q, by omega, hqn, by go_num, rfl, fun j hj hjm => (by
          by_cases e : j = m
          · subst e; exact HC.out
          · have h1 := hours_lt HV.out (i := j) (j := m) (by omega) hmx
            have h2 := HC.out
            omega), HH.out, Bel.trans hbel hb2⟩
        case measure => simp [intOf]; omega
      · have hc0 := cmpI_nlow hc
        obtain ⟨v, hcv⟩ : ∃ v, cmpI xs[m].Hour h = v := ⟨_, rfl⟩
        rw [hcv] at hc0
        have HCV := Lib.hid hcv
        have hc' : h ≤ xs[m].Hour := by omega
        have HC := Lib.hid hc'
        clear hcv hc hc'
        go_wp2_with fail
        refine (Calls.intIs HCV.out (hourBefore_any xs[m] h _)).mono ?_
        rintro e w2 ⟨rfl, hb2⟩
        go_wp2
        go_roundw
        case rel => exact ⟨p, m, hpm, by omega, rfl, rfl, HL.out, fun j hj hjm => (by
          by_cases e : j = m
          · subst e; exact HC.out
          · have h1 := hours_lt HV.out (i := m) (j := j) (by omega) hj
            have h2 := HC.out
            omega), Bel.trans hbel hb2⟩
        case measure => simp [intOf]; omega
    · obtain rfl : p = q := by omega
      have hpos := pos_of hqn HL.out HH.out
      by_cases hpx : p < xs.length
      · obtain ⟨e0, e1, e2, e3⟩ := SObserved.elem (HA.out.below hbel) hpx
        have hha := has_at hpos hpx
        obtain ⟨v, hcv⟩ : ∃ v, cmpI xs[p].Hour h = v := ⟨_, rfl⟩
        rw [← cmpI_eq0, hcv] at hha
        have HCV := Lib.hid hcv
        have HHA := Lib.hid hha
        have HP := Lib.hid hpos
        clear hcv hha hpos
        go_wp2_with fail
        refine (Calls.intIs HCV.out (hourBefore_any xs[p] h _)).mono ?_
        rintro e w2 ⟨rfl, hb2⟩
        go_wp2
        go_ret2
        exact ⟨by rw [HHA.out, HP.out]; rfl, Bel.trans hbel hb2⟩
      · have hha := has_end hpos hpx
        have HHA := Lib.hid hha
        have HP := Lib.hid hpos
        clear hha hpos
        go_wp2
        go_ret2
        exact ⟨by rw [HHA.out, HP.out]; rfl, hbel⟩
end Go.Proofs.Ytcjalooaikfkbaa
