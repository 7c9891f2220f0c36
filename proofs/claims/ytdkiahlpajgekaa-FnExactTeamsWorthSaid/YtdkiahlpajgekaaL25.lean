/- Chapter 25: search for victims. -/
import Derived.Test.YtdkiahlpajgekaaNam
namespace Go.Proofs.Ytdkiahlpajgekaa
set_option linter.unusedSimpArgs false
set_option linter.unusedVariables false
open Go.RowKit
set_option maxHeartbeats 400000
def okArea (x : SArea) : Bool := isName x.Id && inr 0 1000 x.Chance && inr 1 600 x.Minutes
def atArea (xs : List SArea) (i : Nat) : Bool := if h : i < xs.length then okArea xs[i] && (decide (i = 0) || !strLe (xs[i]).Id (xs[i-1]).Id) else false
def vlArea (xs : List SArea) : Bool := (List.range xs.length).all (atArea xs) && decide (xs.length ≤ 8)
theorem vlArea_no {xs : List SArea} {k : Nat} (hk : k < xs.length) (h : atArea xs k = false) : vlArea xs = false := by unfold vlArea; rw [all_range_no hk h, Bool.false_and]
theorem atArea_bad {xs : List SArea} {k : Nat} (hk : k < xs.length) (hv : okArea xs[k] = false) : atArea xs k = false := by simp [atArea, hk, hv]
theorem atArea_0 {xs : List SArea} {k : Nat} (hk : k < xs.length) (hv : okArea xs[k] = true) (h0 : k = 0) : atArea xs k = true := by subst h0; simp [atArea, hk, hv]
theorem atArea_ok {xs : List SArea} {k : Nat} (hk : k < xs.length) (hv : okArea xs[k] = true) (hc : strLe (xs[k]).Id (xs[k-1]).Id = false) : atArea xs k = true := by rw [atArea, dif_pos hk, hv, hc, Bool.true_and, Bool.not_false, Bool.or_true]
theorem atArea_no {xs : List SArea} {k : Nat} (hk : k < xs.length) (h0 : 0 < k) (hc : strLe (xs[k]).Id (xs[k-1]).Id = true) : atArea xs k = false := by rw [atArea, dif_pos hk, hc, decide_eq_false (show ¬ k = 0 by omega), Bool.not_true, Bool.or_false, Bool.and_false]
theorem vlArea_len {xs : List SArea} (h : vlArea xs = true) : xs.length ≤ 8 := by simp only [vlArea, Bool.and_eq_true, decide_eq_true_eq] at h; exact h.2
theorem vlArea_ok {xs : List SArea} (h : vlArea xs = true) : ∀ k (hk : k < xs.length), okArea xs[k] = true := fun k hk => by
  simp only [vlArea, Bool.and_eq_true, List.all_eq_true, List.mem_range] at h; have := h.1 k hk; simp only [atArea, hk, dite_true, Bool.and_eq_true] at this; exact this.1
def fdAreaChance (xs : List SArea) (i : Nat) : Int := if h : i < xs.length then xs[i].Chance else 0
theorem fdAreaChance_at {xs : List SArea} {k : Nat} (h : k < xs.length) : fdAreaChance xs k = xs[k].Chance := by rw [fdAreaChance, dif_pos h]
theorem okArea_Chance {x : SArea} (h : okArea x = true) : 0 ≤ x.Chance ∧ x.Chance ≤ 1000 := by simp [okArea, inr] at h; omega
theorem bdAreaChance_upto {xs : List SArea} {k : Nat} (h : (List.range k).all (atArea xs) = true) : ∀ i, i < k → 0 ≤ fdAreaChance xs i ∧ fdAreaChance xs i ≤ 1000 := fun i hi => by
  have h1 := List.all_eq_true.1 h i (List.mem_range.2 hi)
  unfold atArea at h1
  split at h1
  · rename_i hlt
    rw [fdAreaChance_at hlt]
    simp only [Bool.and_eq_true] at h1
    have h2 := h1.1
    simp [okArea, inr] at h2
    omega
  · exact absurd h1 (by decide)
def fdAreaMinutes (xs : List SArea) (i : Nat) : Int := if h : i < xs.length then xs[i].Minutes else 0
theorem fdAreaMinutes_at {xs : List SArea} {k : Nat} (h : k < xs.length) : fdAreaMinutes xs k = xs[k].Minutes := by rw [fdAreaMinutes, dif_pos h]
theorem okArea_Minutes {x : SArea} (h : okArea x = true) : 0 ≤ x.Minutes ∧ x.Minutes ≤ 600 := by simp [okArea, inr] at h; omega
theorem bdAreaMinutes_upto {xs : List SArea} {k : Nat} (h : (List.range k).all (atArea xs) = true) : ∀ i, i < k → 0 ≤ fdAreaMinutes xs i ∧ fdAreaMinutes xs i ≤ 600 := fun i hi => by
  have h1 := List.all_eq_true.1 h i (List.mem_range.2 hi)
  unfold atArea at h1
  split at h1
  · rename_i hlt
    rw [fdAreaMinutes_at hlt]
    simp only [Bool.and_eq_true] at h1
    have h2 := h1.1
    simp [okArea, inr] at h2
    omega
  · exact absurd h1 (by decide)
theorem validArea_any (x : SArea) (w : World) (hs : x.Id.size ≤ 9223372036854775807) : Calls Try.prog 32 #[.agg #[.string x.Id, .int .i64 x.Chance, .int .i64 x.Minutes]] w fun e w' => e = .returned (.bool (okArea x)) ∧ Below w.heap.size w w' := by
  go_enter Try.func32, Try.ntmps32
  go_wp2_with (first | (go_at_call 41; refine (IsName_any _ _ hs).mono ?_; rintro e w' ⟨rfl, rfl⟩) | (go_at_call 33; refine (within_any _ _ _ _).mono ?_; rintro e w' ⟨rfl, rfl⟩))
  all_goals
    go_ret
    exact ⟨ret_bool (by simp [okArea, *]), (by repeat (first | (with_reducible assumption) | (with_reducible exact Below.refl _ _) | (with_reducible refine Bel.alloc ?_ _) | (with_reducible refine Below.drew ?_) | (with_reducible refine Bel.drewN ?_ _) | (with_reducible refine Bel.setCell ?_ (by (try simp) <;> omega) _) | (with_reducible refine Bel.trans ?_ (by assumption))))⟩
theorem l25One_any (x : SArea) (b o : Nat) (w : World) (p0 : w.cell? ⟨b, o, none⟩ = some (.string x.Id)) (p1 : w.cell? ⟨b, o + 1, none⟩ = some (.int .i64 x.Chance)) (p2 : w.cell? ⟨b, o + 2, none⟩ = some (.int .i64 x.Minutes)) (hs : x.Id.size ≤ 9223372036854775807) :
    Calls Try.prog 27 #[.pointer (some ⟨b, o, none⟩)] w fun e w' => e = .returned (.bool (okArea x)) ∧ w = w' := by
  go_enter Try.func27, Try.ntmps27
  go_wp2_with (first | (go_at_call 37; refine (l01Name_any _ _ hs).mono ?_; rintro e w' ⟨rfl, rfl⟩) | (go_at_call 21; refine (l00In_any _ _ _ _).mono ?_; rintro e w' ⟨rfl, rfl⟩))
  all_goals
    go_ret
    exact ⟨ret_bool (by simp [okArea, *]), rfl⟩
theorem ValidAreas_any (xs : List SArea) (b c : Nat) (w : World) (A : Arr SArea.cells 3 w b xs) (hn : xs.length ≤ 1048576) (hf : ∀ i (h : i < xs.length), xs[i].Id.size ≤ 9223372036854775807) :
    Calls Try.prog 23 #[.slice (some ⟨b, 0, none⟩) xs.length c] w fun e w' => e = .returned (.bool (vlArea xs && decide (sumR (fdAreaChance xs) xs.length ≤ 1000))) ∧ Below w.heap.size w w' := by
  have HF := Lib.hid hf
  clear hf
  have hb := A.1
  by_cases hl : 8 < xs.length
  · go_enter Try.func23, Try.ntmps23
    go_wp2
    go_ret
    exact ⟨ret_bool (by rw [vlArea, decide_eq_false (p := xs.length ≤ 8) (by omega), Bool.and_false, Bool.false_and]), Below.refl _ _⟩
  · go_enter Try.func23, Try.ntmps23
    go_wp2
    go_loopw [3, 11] (fun sm i wr => ∃ k : Nat, k ≤ xs.length ∧ i = .int .i64 k ∧ sm = .int .i64 (sumR (fdAreaChance xs) k) ∧ Below w.heap.size w wr ∧ (List.range k).all (atArea xs) = true) (fun _ i wr => xs.length - (intOf i).toNat)
    case atStart => exact ⟨0, by omega, rfl, rfl, Below.refl _ _, rfl⟩
    case round =>
      obtain ⟨k, hk, rfl, rfl, hbel, hall⟩ := hrel
      have hsb := sumR_bd (f := fdAreaChance xs) (k := k) (M := 1000) (bdAreaChance_upto hall)
      have HA := Lib.hid hall
      clear hall
      by_cases hlt : k < xs.length
      · obtain ⟨e0, e1, e2⟩ := SArea.elem (A.below hbel) hlt
        go_wp2_with fail
        refine wp_alloc_out ?_
        intro W hbw hsz hcl hfz
        clear e0 e1 e2
        have hlw : wr.heap.size < W.heap.size := by omega
        obtain ⟨p0, p1, p2⟩ := SArea.past (x := xs[k]) hcl hlw
        clear hcl hfz hsz
        have hbt := Bel.trans hbel hbw
        cases hv : okArea xs[k]
        · have HV := Lib.hid hv
          clear hv
          refine wp_region_past (by kernel_rfl) (by kernel_rfl) ?_
          repeat (go_big_quiet_step ((go_at_call 32; exact Past.callB _ HV.out (validArea_any xs[k] _ (HF.out k hlt)))))
          refine wpQuiet_nil ?_
          intro W1 hw'
          obtain ⟨⟨W_, hb1⟩, hw''⟩ := hw'
          subst hw''
          have rsum := p1 ⟨W1, hb1⟩
          dsimp only at rsum
          go_wp2
          go_ret
          exact ⟨ret_bool (by rw [and_false_left (vlArea_no hlt (atArea_bad hlt HV.out))]), Bel.trans hbt hb1⟩
        · have HV := Lib.hid hv
          clear hv
          have hob := okArea_Chance HV.out
          by_cases h0 : k = 0
          · have hz : decide (0 < k) = false := by simp; omega
            have H0 := Lib.hid h0
            clear h0
            refine wp_region_past (by kernel_rfl) (by kernel_rfl) ?_
            repeat (go_big_quiet_step ((go_at_call 32; exact Past.callB _ HV.out (validArea_any xs[k] _ (HF.out k hlt)))))
            refine wpQuiet_nil ?_
            intro W1 hw'
            obtain ⟨⟨W_, hb1⟩, hw''⟩ := hw'
            subst hw''
            have rsum := p1 ⟨W1, hb1⟩
            dsimp only at rsum
            go_wp2
            go_roundw
            case rel => exact ⟨k+1, by omega, by go_num, by rw [sumR, fdAreaChance_at hlt], Bel.trans hbt hb1, all_range_snoc HA.out (atArea_0 hlt HV.out H0.out)⟩
            case measure => simp [intOf]; omega
          · have hz : 0 < k := by omega
            have hz1 : (1 : Int) ≤ (k : Int) := by omega
            have hz2 : IntKind.i64.wrap ((k : Int) - 1) = (k : Int) - 1 := IntWalk.i64_in _ (by omega)
            have hz3 : ((k : Int) - 1).toNat = k - 1 := by omega
            obtain ⟨f0, f1, f2⟩ := SArea.elems (A.below hbt) (show k - 1 < xs.length by omega)
            cases hcm : strLe (xs[k]).Id (xs[k-1]).Id
            · have HC := Lib.hid hcm; obtain ⟨hc1, hc2, hc3⟩ := strLe_no hcm; clear hcm
              refine wp_region_past (by kernel_rfl) (by kernel_rfl) ?_
              repeat (go_big_quiet_step ((go_at_call 32; exact Past.callB _ HV.out (validArea_any xs[k] _ (HF.out k hlt)))))
              refine wpQuiet_nil ?_
              intro W1 hw'
              obtain ⟨⟨W_, hb1⟩, hw''⟩ := hw'
              subst hw''
              have rsum := p1 ⟨W1, hb1⟩
              dsimp only at rsum
              go_wp2
              go_roundw
              case rel => exact ⟨k+1, by omega, by go_num, by rw [sumR, fdAreaChance_at hlt], Bel.trans hbt hb1, all_range_snoc HA.out (atArea_ok hlt HV.out HC.out)⟩
              case measure => simp [intOf]; omega
            · have HC := Lib.hid hcm; obtain ⟨hc1, hc2⟩ := strLe_yes hcm; clear hcm
              refine wp_region_past (by kernel_rfl) (by kernel_rfl) ?_
              repeat (go_big_quiet_step ((go_at_call 32; exact Past.callB _ HV.out (validArea_any xs[k] _ (HF.out k hlt)))))
              refine wpQuiet_nil ?_
              intro W1 hw'
              obtain ⟨⟨W_, hb1⟩, hw''⟩ := hw'
              subst hw''
              have rsum := p1 ⟨W1, hb1⟩
              dsimp only at rsum
              go_wp2
              go_ret
              exact ⟨ret_bool (by rw [and_false_left (vlArea_no hlt (atArea_no hlt hz HC.out))]), Bel.trans hbt hb1⟩
      · obtain rfl : k = xs.length := by omega
        go_wp2
        go_ret
        exact ⟨ret_bool (by rw [vlArea, HA.out, decide_eq_true (p := xs.length ≤ 8) (by omega), Bool.true_and, Bool.true_and]), hbel⟩
theorem l25Ok_any (xs : List SArea) (b c : Nat) (w : World) (A : Arr SArea.cells 3 w b xs) (hn : xs.length ≤ 1048576) (hf : ∀ i (h : i < xs.length), xs[i].Id.size ≤ 9223372036854775807) :
    Calls Try.prog 15 #[.slice (some ⟨b, 0, none⟩) xs.length c] w fun e w' => e = .returned (.bool (vlArea xs && decide (sumR (fdAreaChance xs) xs.length ≤ 1000))) ∧ Below w.heap.size w w' := by
  have HF := Lib.hid hf
  clear hf
  have hb := A.1
  go_enter Try.func15, Try.ntmps15
  go_wp2_with fail
  go_loopw [3, 4] (fun sm i wr => ∃ k : Nat, k ≤ xs.length ∧ i = .int .i64 k ∧ sm = .int .i64 (sumR (fdAreaChance xs) k) ∧ Below w.heap.size w wr ∧ (List.range k).all (atArea xs) = true) (fun _ i wr => xs.length - (intOf i).toNat)
  case atStart => exact ⟨0, by omega, rfl, rfl, Below.refl _ _, rfl⟩
  case round =>
    obtain ⟨k, hk, rfl, rfl, hbel, hall⟩ := hrel
    have hsb := sumR_bd (f := fdAreaChance xs) (k := k) (M := 1000) (bdAreaChance_upto hall)
    have HA := Lib.hid hall
    clear hall
    by_cases hlt : k < xs.length
    · obtain ⟨p0, p1, p2⟩ := SArea.elems (A.below hbel) hlt
      go_wp2_with fail
      have hwf : ∀ p : Past wr, Calls Try.prog 27 #[.pointer (some ⟨b, k * 3, none⟩)] p.w fun e w' => e = .returned (.bool (okArea xs[k])) ∧ p.w = w' := fun p => l25One_any xs[k] b (k * 3) p.w (p0 p) (p1 p) (p2 p) (HF.out k hlt)
      have HP := Lib.hid hwf
      clear hwf
      cases hv : okArea xs[k]
      · have HV := Lib.hid hv
        clear hv
        refine wp_region_past (by kernel_rfl) (by kernel_rfl) ?_
        repeat (go_big_quiet_step ((go_at_call 27; exact Past.sameB _ HV.out (HP.out _))))
        refine wpQuiet_nil ?_
        intro W1 hw'
        obtain ⟨⟨W_, hb1⟩, hw''⟩ := hw'
        subst hw''
        have rsum := p1 ⟨W1, hb1⟩
        dsimp only at rsum
        go_wp2
        go_ret
        exact ⟨ret_bool (by rw [and_false_left (vlArea_no hlt (atArea_bad hlt HV.out))]), Bel.trans hbel hb1⟩
      · have HV := Lib.hid hv
        clear hv
        have hob := okArea_Chance HV.out
        by_cases h0 : k = 0
        · have hz : decide (0 < k) = false := by simp; omega
          have H0 := Lib.hid h0
          clear h0
          refine wp_region_past (by kernel_rfl) (by kernel_rfl) ?_
          repeat (go_big_quiet_step ((go_at_call 27; exact Past.sameB _ HV.out (HP.out _))))
          refine wpQuiet_nil ?_
          intro W1 hw'
          obtain ⟨⟨W_, hb1⟩, hw''⟩ := hw'
          subst hw''
          have rsum := p1 ⟨W1, hb1⟩
          dsimp only at rsum
          go_wp2
          go_roundw
          case rel => exact ⟨k+1, by omega, by go_num, by rw [sumR, fdAreaChance_at hlt], Bel.trans hbel hb1, all_range_snoc HA.out (atArea_0 hlt HV.out H0.out)⟩
          case measure => simp [intOf]; omega
        · have hz : 0 < k := by omega
          have hz1 : (1 : Int) ≤ (k : Int) := by omega
          have hz2 : IntKind.i64.wrap ((k : Int) - 1) = (k : Int) - 1 := IntWalk.i64_in _ (by omega)
          have hz3 : ((k : Int) - 1).toNat = k - 1 := by omega
          obtain ⟨f0, f1, f2⟩ := SArea.elems (A.below hbel) (show k - 1 < xs.length by omega)
          cases hcm : strLe (xs[k]).Id (xs[k-1]).Id
          · have HC := Lib.hid hcm; obtain ⟨hc1, hc2, hc3⟩ := strLe_no hcm; clear hcm
            refine wp_region_past (by kernel_rfl) (by kernel_rfl) ?_
            repeat (go_big_quiet_step ((go_at_call 27; exact Past.sameB _ HV.out (HP.out _))))
            refine wpQuiet_nil ?_
            intro W1 hw'
            obtain ⟨⟨W_, hb1⟩, hw''⟩ := hw'
            subst hw''
            have rsum := p1 ⟨W1, hb1⟩
            dsimp only at rsum
            go_wp2
            go_roundw
            case rel => exact ⟨k+1, by omega, by go_num, by rw [sumR, fdAreaChance_at hlt], Bel.trans hbel hb1, all_range_snoc HA.out (atArea_ok hlt HV.out HC.out)⟩
            case measure => simp [intOf]; omega
          · have HC := Lib.hid hcm; obtain ⟨hc1, hc2⟩ := strLe_yes hcm; clear hcm
            refine wp_region_past (by kernel_rfl) (by kernel_rfl) ?_
            repeat (go_big_quiet_step ((go_at_call 27; exact Past.sameB _ HV.out (HP.out _))))
            refine wpQuiet_nil ?_
            intro W1 hw'
            obtain ⟨⟨W_, hb1⟩, hw''⟩ := hw'
            subst hw''
            have rsum := p1 ⟨W1, hb1⟩
            dsimp only at rsum
            go_wp2
            go_ret
            exact ⟨ret_bool (by rw [and_false_left (vlArea_no hlt (atArea_no hlt hz HC.out))]), Bel.trans hbel hb1⟩
    · obtain rfl : k = xs.length := by omega
      go_wp2
      all_goals
        go_ret
        exact ⟨ret_bool (by rw [vlArea, HA.out, Bool.true_and]; simp [*] <;> omega), hbel⟩
end Go.Proofs.Ytdkiahlpajgekaa
