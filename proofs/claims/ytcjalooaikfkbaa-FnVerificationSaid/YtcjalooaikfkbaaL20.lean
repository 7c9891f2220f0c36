/- Chapter 20: verification. -/
import Derived.Test.YtcjalooaikfkbaaCom
namespace Go.Proofs.Ytcjalooaikfkbaa
set_option linter.unusedSimpArgs false
set_option linter.unusedVariables false
open Go.RowKit
set_option maxHeartbeats 400000
def okVerified (x : SVerified) : Bool := inr 0 36524 x.Day && inr 1 5 x.Told && inr 1 5 x.Seen
def atVerified (xs : List SVerified) (i : Nat) : Bool := if h : i < xs.length then okVerified xs[i] && (decide (i = 0) || !decide ((xs[i]).Day ≤ (xs[i-1]).Day)) else false
def vlVerified (xs : List SVerified) : Bool := (List.range xs.length).all (atVerified xs) && decide (xs.length ≤ 64)
theorem vlVerified_no {xs : List SVerified} {k : Nat} (hk : k < xs.length) (h : atVerified xs k = false) : vlVerified xs = false := by unfold vlVerified; rw [all_range_no hk h, Bool.false_and]
theorem atVerified_bad {xs : List SVerified} {k : Nat} (hk : k < xs.length) (hv : okVerified xs[k] = false) : atVerified xs k = false := by simp [atVerified, hk, hv]
theorem atVerified_0 {xs : List SVerified} {k : Nat} (hk : k < xs.length) (hv : okVerified xs[k] = true) (h0 : k = 0) : atVerified xs k = true := by subst h0; simp [atVerified, hk, hv]
theorem atVerified_ok {xs : List SVerified} {k : Nat} (hk : k < xs.length) (hv : okVerified xs[k] = true) (hc : decide ((xs[k]).Day ≤ (xs[k-1]).Day) = false) : atVerified xs k = true := by rw [atVerified, dif_pos hk, hv, hc, Bool.true_and, Bool.not_false, Bool.or_true]
theorem atVerified_no {xs : List SVerified} {k : Nat} (hk : k < xs.length) (h0 : 0 < k) (hc : decide ((xs[k]).Day ≤ (xs[k-1]).Day) = true) : atVerified xs k = false := by rw [atVerified, dif_pos hk, hc, decide_eq_false (show ¬ k = 0 by omega), Bool.not_true, Bool.or_false, Bool.and_false]
theorem vlVerified_len {xs : List SVerified} (h : vlVerified xs = true) : xs.length ≤ 64 := by simp only [vlVerified, Bool.and_eq_true, decide_eq_true_eq] at h; exact h.2
theorem vlVerified_ok {xs : List SVerified} (h : vlVerified xs = true) : ∀ k (hk : k < xs.length), okVerified xs[k] = true := fun k hk => by
  simp only [vlVerified, Bool.and_eq_true, List.all_eq_true, List.mem_range] at h; have := h.1 k hk; simp only [atVerified, hk, dite_true, Bool.and_eq_true] at this; exact this.1
theorem validVerified_any (x : SVerified) (w : World) : Calls Try.prog 93 #[.agg #[.int .i64 x.Day, .int .i64 x.Told, .int .i64 x.Seen]] w fun e w' => e = .returned (.bool (okVerified x)) ∧ Below w.heap.size w w' := by
  go_enter Try.func93, Try.ntmps93
  go_wp2_with (first | (go_at_call 106; refine (dayValid_any _ _).mono ?_; rintro e w' ⟨rfl, rfl⟩) | (go_at_call 94; refine (levelOk_any _ _).mono ?_; rintro e w' ⟨rfl, rfl⟩))
  all_goals
    go_ret
    exact ⟨ret_bool (by simp [okVerified, *]), (by repeat (first | (with_reducible assumption) | (with_reducible exact Below.refl _ _) | (with_reducible refine Bel.alloc ?_ _) | (with_reducible refine Below.drew ?_) | (with_reducible refine Bel.drewN ?_ _) | (with_reducible refine Bel.setCell ?_ (by (try simp) <;> omega) _) | (with_reducible refine Bel.trans ?_ (by assumption))))⟩
theorem l20One_any (x : SVerified) (b o : Nat) (w : World) (p0 : w.cell? ⟨b, o, none⟩ = some (.int .i64 x.Day)) (p1 : w.cell? ⟨b, o + 1, none⟩ = some (.int .i64 x.Told)) (p2 : w.cell? ⟨b, o + 2, none⟩ = some (.int .i64 x.Seen)) :
    Calls Try.prog 105 #[.pointer (some ⟨b, o, none⟩)] w fun e w' => e = .returned (.bool (okVerified x)) ∧ w = w' := by
  go_enter Try.func105, Try.ntmps105
  go_wp2_with (first | (go_at_call 110; refine (l02Day_any _ _).mono ?_; rintro e w' ⟨rfl, rfl⟩) | (go_at_call 111; refine (l17Is_any _ _).mono ?_; rintro e w' ⟨rfl, rfl⟩))
  all_goals
    go_ret
    exact ⟨ret_bool (by simp [okVerified, *]), rfl⟩
theorem ValidVerified_any (xs : List SVerified) (b c : Nat) (w : World) (A : Arr SVerified.cells 3 w b xs) (hn : xs.length ≤ 1048576) :
    Calls Try.prog 60 #[.slice (some ⟨b, 0, none⟩) xs.length c] w fun e w' => e = .returned (.bool (vlVerified xs)) ∧ Below w.heap.size w w' := by
  have hb := A.1
  by_cases hl : 64 < xs.length
  · go_enter Try.func60, Try.ntmps60
    go_wp2
    go_ret
    exact ⟨ret_bool (by rw [vlVerified, decide_eq_false (by omega), Bool.and_false]), Below.refl _ _⟩
  · go_enter Try.func60, Try.ntmps60
    go_wp2
    go_loopw [10] (fun i wr => ∃ k : Nat, k ≤ xs.length ∧ i = .int .i64 k ∧ Below w.heap.size w wr ∧ (List.range k).all (atVerified xs) = true) (fun i wr => xs.length - (intOf i).toNat)
    case atStart => exact ⟨0, by omega, rfl, Below.refl _ _, rfl⟩
    case round =>
      obtain ⟨k, hk, rfl, hbel, hall⟩ := hrel
      have HA := Lib.hid hall
      clear hall
      by_cases hlt : k < xs.length
      · obtain ⟨e0, e1, e2⟩ := SVerified.elem (A.below hbel) hlt
        go_wp2_with fail
        refine wp_alloc_out ?_
        intro W hbw hsz hcl hfz
        clear e0 e1 e2
        have hlw : wr.heap.size < W.heap.size := by omega
        obtain ⟨p0, p1, p2⟩ := SVerified.past (x := xs[k]) hcl hlw
        clear hcl hfz hsz
        have hbt := Bel.trans hbel hbw
        cases hv : okVerified xs[k]
        · have HV := Lib.hid hv
          clear hv
          refine wp_region_past (by kernel_rfl) (by kernel_rfl) ?_
          repeat (go_big_quiet_step ((go_at_call 93; exact Past.callB _ HV.out (validVerified_any xs[k] _))))
          refine wpQuiet_nil ?_
          intro W1 hw'
          obtain ⟨⟨W_, hb1⟩, hw''⟩ := hw'
          subst hw''
          go_wp2
          go_ret
          exact ⟨ret_bool (by rw [vlVerified_no hlt (atVerified_bad hlt HV.out)]), Bel.trans hbt hb1⟩
        · have HV := Lib.hid hv
          clear hv
          by_cases h0 : k = 0
          · have hz : decide (0 < k) = false := by simp; omega
            have H0 := Lib.hid h0
            clear h0
            refine wp_region_past (by kernel_rfl) (by kernel_rfl) ?_
            repeat (go_big_quiet_step ((go_at_call 93; exact Past.callB _ HV.out (validVerified_any xs[k] _))))
            refine wpQuiet_nil ?_
            intro W1 hw'
            obtain ⟨⟨W_, hb1⟩, hw''⟩ := hw'
            subst hw''
            go_wp2
            go_roundw
            case rel => exact ⟨k+1, by omega, by go_num, Bel.trans hbt hb1, all_range_snoc HA.out (atVerified_0 hlt HV.out H0.out)⟩
            case measure => simp [intOf]; omega
          · have hz : 0 < k := by omega
            have hz1 : (1 : Int) ≤ (k : Int) := by omega
            have hz2 : IntKind.i64.wrap ((k : Int) - 1) = (k : Int) - 1 := IntWalk.i64_in _ (by omega)
            have hz3 : ((k : Int) - 1).toNat = k - 1 := by omega
            obtain ⟨f0, f1, f2⟩ := SVerified.elems (A.below hbt) (show k - 1 < xs.length by omega)
            cases hcm : decide ((xs[k]).Day ≤ (xs[k-1]).Day)
            · have HC := Lib.hid hcm; have hc1 : (xs[k-1]).Day < (xs[k]).Day := (by simpa using hcm); clear hcm
              refine wp_region_past (by kernel_rfl) (by kernel_rfl) ?_
              repeat (go_big_quiet_step ((go_at_call 93; exact Past.callB _ HV.out (validVerified_any xs[k] _))))
              refine wpQuiet_nil ?_
              intro W1 hw'
              obtain ⟨⟨W_, hb1⟩, hw''⟩ := hw'
              subst hw''
              go_wp2
              go_roundw
              case rel => exact ⟨k+1, by omega, by go_num, Bel.trans hbt hb1, all_range_snoc HA.out (atVerified_ok hlt HV.out HC.out)⟩
              case measure => simp [intOf]; omega
            · have HC := Lib.hid hcm; have hc1 : (xs[k]).Day ≤ (xs[k-1]).Day := (by simpa using hcm); clear hcm
              refine wp_region_past (by kernel_rfl) (by kernel_rfl) ?_
              repeat (go_big_quiet_step ((go_at_call 93; exact Past.callB _ HV.out (validVerified_any xs[k] _))))
              refine wpQuiet_nil ?_
              intro W1 hw'
              obtain ⟨⟨W_, hb1⟩, hw''⟩ := hw'
              subst hw''
              go_wp2
              go_ret
              exact ⟨ret_bool (by rw [vlVerified_no hlt (atVerified_no hlt hz HC.out)]), Bel.trans hbt hb1⟩
      · obtain rfl : k = xs.length := by omega
        go_wp2
        go_ret
        exact ⟨ret_bool (by rw [vlVerified, HA.out, decide_eq_true (by omega)]; rfl), hbel⟩
theorem l20Ok_any (xs : List SVerified) (b c : Nat) (w : World) (A : Arr SVerified.cells 3 w b xs) (hn : xs.length ≤ 1048576) :
    Calls Try.prog 104 #[.slice (some ⟨b, 0, none⟩) xs.length c] w fun e w' => e = .returned (.bool (vlVerified xs)) ∧ Below w.heap.size w w' := by
  have hb := A.1
  go_enter Try.func104, Try.ntmps104
  go_wp2_with fail
  go_loopw [3] (fun i wr => ∃ k : Nat, k ≤ xs.length ∧ i = .int .i64 k ∧ Below w.heap.size w wr ∧ (List.range k).all (atVerified xs) = true) (fun i wr => xs.length - (intOf i).toNat)
  case atStart => exact ⟨0, by omega, rfl, Below.refl _ _, rfl⟩
  case round =>
    obtain ⟨k, hk, rfl, hbel, hall⟩ := hrel
    have HA := Lib.hid hall
    clear hall
    by_cases hlt : k < xs.length
    · obtain ⟨p0, p1, p2⟩ := SVerified.elems (A.below hbel) hlt
      go_wp2_with fail
      have hwf : ∀ p : Past wr, Calls Try.prog 105 #[.pointer (some ⟨b, k * 3, none⟩)] p.w fun e w' => e = .returned (.bool (okVerified xs[k])) ∧ p.w = w' := fun p => l20One_any xs[k] b (k * 3) p.w (p0 p) (p1 p) (p2 p)
      have HP := Lib.hid hwf
      clear hwf
      cases hv : okVerified xs[k]
      · have HV := Lib.hid hv
        clear hv
        refine wp_region_past (by kernel_rfl) (by kernel_rfl) ?_
        repeat (go_big_quiet_step ((go_at_call 105; exact Past.sameB _ HV.out (HP.out _))))
        refine wpQuiet_nil ?_
        intro W1 hw'
        obtain ⟨⟨W_, hb1⟩, hw''⟩ := hw'
        subst hw''
        go_wp2
        go_ret
        exact ⟨ret_bool (by rw [vlVerified_no hlt (atVerified_bad hlt HV.out)]), Bel.trans hbel hb1⟩
      · have HV := Lib.hid hv
        clear hv
        by_cases h0 : k = 0
        · have hz : decide (0 < k) = false := by simp; omega
          have H0 := Lib.hid h0
          clear h0
          refine wp_region_past (by kernel_rfl) (by kernel_rfl) ?_
          repeat (go_big_quiet_step ((go_at_call 105; exact Past.sameB _ HV.out (HP.out _))))
          refine wpQuiet_nil ?_
          intro W1 hw'
          obtain ⟨⟨W_, hb1⟩, hw''⟩ := hw'
          subst hw''
          go_wp2
          go_roundw
          case rel => exact ⟨k+1, by omega, by go_num, Bel.trans hbel hb1, all_range_snoc HA.out (atVerified_0 hlt HV.out H0.out)⟩
          case measure => simp [intOf]; omega
        · have hz : 0 < k := by omega
          have hz1 : (1 : Int) ≤ (k : Int) := by omega
          have hz2 : IntKind.i64.wrap ((k : Int) - 1) = (k : Int) - 1 := IntWalk.i64_in _ (by omega)
          have hz3 : ((k : Int) - 1).toNat = k - 1 := by omega
          obtain ⟨f0, f1, f2⟩ := SVerified.elems (A.below hbel) (show k - 1 < xs.length by omega)
          cases hcm : decide ((xs[k]).Day ≤ (xs[k-1]).Day)
          · have HC := Lib.hid hcm; have hc1 : (xs[k-1]).Day < (xs[k]).Day := (by simpa using hcm); clear hcm
            refine wp_region_past (by kernel_rfl) (by kernel_rfl) ?_
            repeat (go_big_quiet_step ((go_at_call 105; exact Past.sameB _ HV.out (HP.out _))))
            refine wpQuiet_nil ?_
            intro W1 hw'
            obtain ⟨⟨W_, hb1⟩, hw''⟩ := hw'
            subst hw''
            go_wp2
            go_roundw
            case rel => exact ⟨k+1, by omega, by go_num, Bel.trans hbel hb1, all_range_snoc HA.out (atVerified_ok hlt HV.out HC.out)⟩
            case measure => simp [intOf]; omega
          · have HC := Lib.hid hcm; have hc1 : (xs[k]).Day ≤ (xs[k-1]).Day := (by simpa using hcm); clear hcm
            refine wp_region_past (by kernel_rfl) (by kernel_rfl) ?_
            repeat (go_big_quiet_step ((go_at_call 105; exact Past.sameB _ HV.out (HP.out _))))
            refine wpQuiet_nil ?_
            intro W1 hw'
            obtain ⟨⟨W_, hb1⟩, hw''⟩ := hw'
            subst hw''
            go_wp2
            go_ret
            exact ⟨ret_bool (by rw [vlVerified_no hlt (atVerified_no hlt hz HC.out)]), Bel.trans hbel hb1⟩
    · obtain rfl : k = xs.length := by omega
      go_wp2
      go_ret
      exact ⟨ret_bool (by rw [vlVerified, HA.out, Bool.true_and]; simp <;> omega), hbel⟩
end Go.Proofs.Ytcjalooaikfkbaa
