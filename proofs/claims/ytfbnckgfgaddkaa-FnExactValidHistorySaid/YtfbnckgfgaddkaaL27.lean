/- Chapter 27: valid states, values by name: the walks. -/
import Derived.Test.YtfbnckgfgaddkaaNam
import Derived.Test.YtfbnckgfgaddkaaLst
namespace Go.Proofs.Ytfbnckgfgaddkaa
set_option linter.unusedSimpArgs false
set_option linter.unusedVariables false
open Go.RowKit
set_option maxHeartbeats 400000
set_option maxRecDepth 100000
def okSetting (x : SSetting) : Bool := isName x.Name && inr 0 1000 x.Val
theorem okSetting_bd {x : SSetting} (h : okSetting x = true) : 0 ≤ x.Val ∧ x.Val ≤ 1000 := by simp [okSetting, inr] at h; omega
def atSetting (xs : List SSetting) (i : Nat) : Bool := if h : i < xs.length then okSetting xs[i] && (decide (i = 0) || !strLe (xs[i]).Name (xs[i-1]).Name) else false
def vlSetting (xs : List SSetting) : Bool := (List.range xs.length).all (atSetting xs) && decide (xs.length ≤ 24)
theorem vlSetting_no {xs : List SSetting} {k : Nat} (hk : k < xs.length) (h : atSetting xs k = false) : vlSetting xs = false := by unfold vlSetting; rw [all_range_no hk h, Bool.false_and]
theorem atSetting_bad {xs : List SSetting} {k : Nat} (hk : k < xs.length) (hv : okSetting xs[k] = false) : atSetting xs k = false := by simp [atSetting, hk, hv]
theorem atSetting_0 {xs : List SSetting} {k : Nat} (hk : k < xs.length) (hv : okSetting xs[k] = true) (h0 : k = 0) : atSetting xs k = true := by subst h0; simp [atSetting, hk, hv]
theorem atSetting_ok {xs : List SSetting} {k : Nat} (hk : k < xs.length) (hv : okSetting xs[k] = true) (hc : strLe (xs[k]).Name (xs[k-1]).Name = false) : atSetting xs k = true := by rw [atSetting, dif_pos hk, hv, hc, Bool.true_and, Bool.not_false, Bool.or_true]
theorem atSetting_no {xs : List SSetting} {k : Nat} (hk : k < xs.length) (h0 : 0 < k) (hc : strLe (xs[k]).Name (xs[k-1]).Name = true) : atSetting xs k = false := by rw [atSetting, dif_pos hk, hc, decide_eq_false (show ¬ k = 0 by omega), Bool.not_true, Bool.or_false, Bool.and_false]
theorem vlSetting_len {xs : List SSetting} (h : vlSetting xs = true) : xs.length ≤ 24 := by simp only [vlSetting, Bool.and_eq_true, decide_eq_true_eq] at h; exact h.2
theorem vlSetting_ok {xs : List SSetting} (h : vlSetting xs = true) : ∀ k (hk : k < xs.length), okSetting xs[k] = true := fun k hk => by
  simp only [vlSetting, Bool.and_eq_true, List.all_eq_true, List.mem_range] at h; have := h.1 k hk; simp only [atSetting, hk, dite_true, Bool.and_eq_true] at this; exact this.1
theorem validSetting_any (x : SSetting) (w : World) (hs : x.Name.size ≤ 9223372036854775807) : Calls Try.prog 36 #[.agg #[.string x.Name, .int .i64 x.Val]] w fun e w' => e = .returned (.bool (okSetting x)) ∧ Below w.heap.size w w' := by
  go_enter Try.func36, Try.ntmps36
  go_wp2_with (first | (go_at_call 39; refine (IsName_any _ _ hs).mono ?_; rintro e w' ⟨rfl, rfl⟩) | (go_at_call 20; refine (within_any _ _ _ _).mono ?_; rintro e w' ⟨rfl, rfl⟩))
  all_goals
    go_ret
    exact ⟨ret_bool (by simp [okSetting, *]), (by repeat (first | (with_reducible assumption) | (with_reducible exact Below.refl _ _) | (with_reducible refine Bel.alloc ?_ _) | (with_reducible refine Below.drew ?_) | (with_reducible refine Bel.drewN ?_ _) | (with_reducible refine Bel.setCell ?_ (by (try simp) <;> omega) _) | (with_reducible refine Bel.trans ?_ (by assumption))))⟩
theorem l27Setting_any (x : SSetting) (b o : Nat) (w : World) (p0 : w.cell? ⟨b, o, none⟩ = some (.string x.Name)) (p1 : w.cell? ⟨b, o + 1, none⟩ = some (.int .i64 x.Val)) (hs : x.Name.size ≤ 9223372036854775807) :
    Calls Try.prog 42 #[.pointer (some ⟨b, o, none⟩)] w fun e w' => e = .returned (.bool (okSetting x)) ∧ w = w' := by
  go_enter Try.func42, Try.ntmps42
  go_wp2_with (first | (go_at_call 38; refine (l01Name_any _ _ hs).mono ?_; rintro e w' ⟨rfl, rfl⟩) | (go_at_call 25; refine (l00In_any _ _ _ _).mono ?_; rintro e w' ⟨rfl, rfl⟩))
  all_goals
    go_ret
    exact ⟨ret_bool (by simp [okSetting, *]), rfl⟩
theorem ValidState_any (xs : List SSetting) (b c : Nat) (w : World) (A : Arr SSetting.cells 2 w b xs) (hn : xs.length ≤ 1048576) (hf : ∀ i (h : i < xs.length), xs[i].Name.size ≤ 9223372036854775807) :
    Calls Try.prog 22 #[.slice (some ⟨b, 0, none⟩) xs.length c] w fun e w' => e = .returned (.bool (vlSetting xs)) ∧ Below w.heap.size w w' := by
  have HF := Lib.hid hf
  clear hf
  have hb := A.1
  by_cases hl : 24 < xs.length
  · go_enter Try.func22, Try.ntmps22
    go_wp2
    go_ret
    exact ⟨ret_bool (by rw [vlSetting, decide_eq_false (by omega), Bool.and_false]), Below.refl _ _⟩
  · go_enter Try.func22, Try.ntmps22
    go_wp2
    go_loopw [10] (fun i wr => ∃ k : Nat, k ≤ xs.length ∧ i = .int .i64 k ∧ Below w.heap.size w wr ∧ (List.range k).all (atSetting xs) = true) (fun i wr => xs.length - (intOf i).toNat)
    case atStart => exact ⟨0, by omega, rfl, Below.refl _ _, rfl⟩
    case round =>
      obtain ⟨k, hk, rfl, hbel, hall⟩ := hrel
      have HA := Lib.hid hall
      clear hall
      by_cases hlt : k < xs.length
      · obtain ⟨e0, e1⟩ := SSetting.elem (A.below hbel) hlt
        go_wp2_with fail
        refine wp_alloc_out ?_
        intro W hbw hsz hcl hfz
        clear e0 e1
        have hlw : wr.heap.size < W.heap.size := by omega
        obtain ⟨p0, p1⟩ := SSetting.past (x := xs[k]) hcl hlw
        clear hcl hfz hsz
        have hbt := Bel.trans hbel hbw
        cases hv : okSetting xs[k]
        · have HV := Lib.hid hv
          clear hv
          refine wp_region_past (by kernel_rfl) (by kernel_rfl) ?_
          repeat (go_big_quiet_step ((go_at_call 36; exact Past.callB _ HV.out (validSetting_any xs[k] _ (HF.out k hlt)))))
          refine wpQuiet_nil ?_
          intro W1 hw'
          obtain ⟨⟨W_, hb1⟩, hw''⟩ := hw'
          subst hw''
          go_wp2
          go_ret
          exact ⟨ret_bool (by rw [vlSetting_no hlt (atSetting_bad hlt HV.out)]), Bel.trans hbt hb1⟩
        · have HV := Lib.hid hv
          clear hv
          by_cases h0 : k = 0
          · have hz : decide (0 < k) = false := by simp; omega
            have H0 := Lib.hid h0
            clear h0
            refine wp_region_past (by kernel_rfl) (by kernel_rfl) ?_
            repeat (go_big_quiet_step ((go_at_call 36; exact Past.callB _ HV.out (validSetting_any xs[k] _ (HF.out k hlt)))))
            refine wpQuiet_nil ?_
            intro W1 hw'
            obtain ⟨⟨W_, hb1⟩, hw''⟩ := hw'
            subst hw''
            go_wp2
            go_roundw
            case rel => exact ⟨k+1, by omega, by go_num, Bel.trans hbt hb1, all_range_snoc HA.out (atSetting_0 hlt HV.out H0.out)⟩
            case measure => simp [intOf]; omega
          · have hz : 0 < k := by omega
            have hz1 : (1 : Int) ≤ (k : Int) := by omega
            have hz2 : IntKind.i64.wrap ((k : Int) - 1) = (k : Int) - 1 := IntWalk.i64_in _ (by omega)
            have hz3 : ((k : Int) - 1).toNat = k - 1 := by omega
            obtain ⟨f0, f1⟩ := SSetting.elems (A.below hbt) (show k - 1 < xs.length by omega)
            cases hcm : strLe (xs[k]).Name (xs[k-1]).Name
            · have HC := Lib.hid hcm; obtain ⟨hc1, hc2, hc3⟩ := strLe_no hcm; clear hcm
              refine wp_region_past (by kernel_rfl) (by kernel_rfl) ?_
              repeat (go_big_quiet_step ((go_at_call 36; exact Past.callB _ HV.out (validSetting_any xs[k] _ (HF.out k hlt)))))
              refine wpQuiet_nil ?_
              intro W1 hw'
              obtain ⟨⟨W_, hb1⟩, hw''⟩ := hw'
              subst hw''
              go_wp2
              go_roundw
              case rel => exact ⟨k+1, by omega, by go_num, Bel.trans hbt hb1, all_range_snoc HA.out (atSetting_ok hlt HV.out HC.out)⟩
              case measure => simp [intOf]; omega
            · have HC := Lib.hid hcm; obtain ⟨hc1, hc2⟩ := strLe_yes hcm; clear hcm
              refine wp_region_past (by kernel_rfl) (by kernel_rfl) ?_
              repeat (go_big_quiet_step ((go_at_call 36; exact Past.callB _ HV.out (validSetting_any xs[k] _ (HF.out k hlt)))))
              refine wpQuiet_nil ?_
              intro W1 hw'
              obtain ⟨⟨W_, hb1⟩, hw''⟩ := hw'
              subst hw''
              go_wp2
              go_ret
              exact ⟨ret_bool (by rw [vlSetting_no hlt (atSetting_no hlt hz HC.out)]), Bel.trans hbt hb1⟩
      · obtain rfl : k = xs.length := by omega
        go_wp2
        go_ret
        exact ⟨ret_bool (by rw [vlSetting, HA.out, decide_eq_true (by omega)]; rfl), hbel⟩
theorem l27State_any (xs : List SSetting) (b c : Nat) (w : World) (A : Arr SSetting.cells 2 w b xs) (hn : xs.length ≤ 1048576) (hf : ∀ i (h : i < xs.length), xs[i].Name.size ≤ 9223372036854775807) :
    Calls Try.prog 33 #[.slice (some ⟨b, 0, none⟩) xs.length c] w fun e w' => e = .returned (.bool (vlSetting xs)) ∧ Below w.heap.size w w' := by
  have HF := Lib.hid hf
  clear hf
  have hb := A.1
  go_enter Try.func33, Try.ntmps33
  go_wp2_with fail
  go_loopw [3] (fun i wr => ∃ k : Nat, k ≤ xs.length ∧ i = .int .i64 k ∧ Below w.heap.size w wr ∧ (List.range k).all (atSetting xs) = true) (fun i wr => xs.length - (intOf i).toNat)
  case atStart => exact ⟨0, by omega, rfl, Below.refl _ _, rfl⟩
  case round =>
    obtain ⟨k, hk, rfl, hbel, hall⟩ := hrel
    have HA := Lib.hid hall
    clear hall
    by_cases hlt : k < xs.length
    · obtain ⟨p0, p1⟩ := SSetting.elems (A.below hbel) hlt
      go_wp2_with fail
      have hwf : ∀ p : Past wr, Calls Try.prog 42 #[.pointer (some ⟨b, k * 2, none⟩)] p.w fun e w' => e = .returned (.bool (okSetting xs[k])) ∧ p.w = w' := fun p => l27Setting_any xs[k] b (k * 2) p.w (p0 p) (p1 p) (HF.out k hlt)
      have HP := Lib.hid hwf
      clear hwf
      cases hv : okSetting xs[k]
      · have HV := Lib.hid hv
        clear hv
        refine wp_region_past (by kernel_rfl) (by kernel_rfl) ?_
        repeat (go_big_quiet_step ((go_at_call 42; exact Past.sameB _ HV.out (HP.out _))))
        refine wpQuiet_nil ?_
        intro W1 hw'
        obtain ⟨⟨W_, hb1⟩, hw''⟩ := hw'
        subst hw''
        go_wp2
        go_ret
        exact ⟨ret_bool (by rw [vlSetting_no hlt (atSetting_bad hlt HV.out)]), Bel.trans hbel hb1⟩
      · have HV := Lib.hid hv
        clear hv
        by_cases h0 : k = 0
        · have hz : decide (0 < k) = false := by simp; omega
          have H0 := Lib.hid h0
          clear h0
          refine wp_region_past (by kernel_rfl) (by kernel_rfl) ?_
          repeat (go_big_quiet_step ((go_at_call 42; exact Past.sameB _ HV.out (HP.out _))))
          refine wpQuiet_nil ?_
          intro W1 hw'
          obtain ⟨⟨W_, hb1⟩, hw''⟩ := hw'
          subst hw''
          go_wp2
          go_roundw
          case rel => exact ⟨k+1, by omega, by go_num, Bel.trans hbel hb1, all_range_snoc HA.out (atSetting_0 hlt HV.out H0.out)⟩
          case measure => simp [intOf]; omega
        · have hz : 0 < k := by omega
          have hz1 : (1 : Int) ≤ (k : Int) := by omega
          have hz2 : IntKind.i64.wrap ((k : Int) - 1) = (k : Int) - 1 := IntWalk.i64_in _ (by omega)
          have hz3 : ((k : Int) - 1).toNat = k - 1 := by omega
          obtain ⟨f0, f1⟩ := SSetting.elems (A.below hbel) (show k - 1 < xs.length by omega)
          cases hcm : strLe (xs[k]).Name (xs[k-1]).Name
          · have HC := Lib.hid hcm; obtain ⟨hc1, hc2, hc3⟩ := strLe_no hcm; clear hcm
            refine wp_region_past (by kernel_rfl) (by kernel_rfl) ?_
            repeat (go_big_quiet_step ((go_at_call 42; exact Past.sameB _ HV.out (HP.out _))))
            refine wpQuiet_nil ?_
            intro W1 hw'
            obtain ⟨⟨W_, hb1⟩, hw''⟩ := hw'
            subst hw''
            go_wp2
            go_roundw
            case rel => exact ⟨k+1, by omega, by go_num, Bel.trans hbel hb1, all_range_snoc HA.out (atSetting_ok hlt HV.out HC.out)⟩
            case measure => simp [intOf]; omega
          · have HC := Lib.hid hcm; obtain ⟨hc1, hc2⟩ := strLe_yes hcm; clear hcm
            refine wp_region_past (by kernel_rfl) (by kernel_rfl) ?_
            repeat (go_big_quiet_step ((go_at_call 42; exact Past.sameB _ HV.out (HP.out _))))
            refine wpQuiet_nil ?_
            intro W1 hw'
            obtain ⟨⟨W_, hb1⟩, hw''⟩ := hw'
            subst hw''
            go_wp2
            go_ret
            exact ⟨ret_bool (by rw [vlSetting_no hlt (atSetting_no hlt hz HC.out)]), Bel.trans hbel hb1⟩
    · obtain rfl : k = xs.length := by omega
      go_wp2
      go_ret
      exact ⟨ret_bool (by rw [vlSetting, HA.out, Bool.true_and]; simp <;> omega), hbel⟩
end Go.Proofs.Ytfbnckgfgaddkaa
