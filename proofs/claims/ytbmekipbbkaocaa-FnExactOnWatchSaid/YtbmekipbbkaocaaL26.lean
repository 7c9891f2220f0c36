/- Chapter 26: valid watches. -/
import Derived.Test.YtbmekipbbkaocaaNam
import Derived.Test.YtbmekipbbkaocaaCmp
namespace Go.Proofs.Ytbmekipbbkaocaa
set_option linter.unusedSimpArgs false
set_option linter.unusedVariables false
open Go.RowKit
set_option maxHeartbeats 400000
set_option maxRecDepth 100000
def okWatch (x : SWatch) : Bool := isName x.Person && inr 0 10000 x.Start && inr 1 48 x.Hours
theorem okWatch_bd {x : SWatch} (h : okWatch x = true) : 0 ≤ x.Start ∧ x.Start ≤ 10000 ∧ 1 ≤ x.Hours ∧ x.Hours ≤ 48 := by simp [okWatch, inr] at h; omega
def samP (a b : SWatch) : Bool := a.Person.toList == b.Person.toList
/-- a may stand before b -/
def ltWatch (a b : SWatch) : Bool := Op.bytesLess a.Person.toList b.Person.toList || (samP a b && decide (a.Start + a.Hours ≤ b.Start))
def cmpWatch (a b : SWatch) : Int := orI (cmpS a.Person b.Person) (cmpI a.Start b.Start)
theorem cmpWatch_eq {a b : SWatch} (h : samP a b = true) : cmpWatch a b = cmpI a.Start b.Start := by
  have := cmpS_0 h
  rw [cmpWatch, orI, if_pos this]
theorem cmpWatch_lt {a b : SWatch} (h : Op.bytesLess a.Person.toList b.Person.toList = true) : cmpWatch a b = -1 := by
  have := cmpS_lt h
  rw [cmpWatch, orI, ← this, if_neg (by omega)]
theorem cmpWatch_gt {a b : SWatch} (h : Op.bytesLess a.Person.toList b.Person.toList = false) (h2 : samP a b = false) : cmpWatch a b = 1 := by
  have := cmpS_gt h (by simpa [samP] using h2)
  rw [cmpWatch, orI, ← this, if_neg (by omega)]
theorem lw_rej {a b : SWatch} (h : ltWatch a b = false) (h2 : cmpWatch a b < 0) : samP a b = true ∧ b.Start < a.Start + a.Hours := by
  unfold ltWatch at h
  rw [Bool.or_eq_false_iff] at h
  cases hs : samP a b
  · rw [cmpWatch_gt h.1 hs] at h2; omega
  · rw [hs, Bool.true_and] at h
    exact ⟨rfl, by have := h.2; simp at this; omega⟩
theorem lw_acc {a b : SWatch} (h : ltWatch a b = true) (h2 : 1 ≤ a.Hours) : cmpWatch a b < 0 := by
  unfold ltWatch at h
  rw [Bool.or_eq_true, Bool.and_eq_true] at h
  rcases h with h | ⟨h3, h4⟩
  · rw [cmpWatch_lt h]; omega
  · rw [cmpWatch_eq h3]
    have h5 : a.Start + a.Hours ≤ b.Start := by simpa using h4
    unfold cmpI; rw [if_pos (by omega)]; omega
theorem lw_acc_eq {a b : SWatch} (h : ltWatch a b = true) (h2 : samP a b = true) : a.Start + a.Hours ≤ b.Start := by
  unfold ltWatch at h
  rw [h2, Bool.true_and, Bool.or_eq_true] at h
  rcases h with h | h
  · have := bl_lt h; rw [samP] at h2; rw [this] at h2; cases h2
  · simpa using h
def atWatch (xs : List SWatch) (i : Nat) : Bool := if h : i < xs.length then okWatch xs[i] && (decide (i = 0) || ltWatch (xs[i-1]) xs[i]) else false
def vlWatch (xs : List SWatch) : Bool := (List.range xs.length).all (atWatch xs) && decide (xs.length ≤ 32)
theorem vlWatch_no {xs : List SWatch} {k : Nat} (hk : k < xs.length) (h : atWatch xs k = false) : vlWatch xs = false := by unfold vlWatch; rw [all_range_no hk h, Bool.false_and]
theorem atWatch_bad {xs : List SWatch} {k : Nat} (hk : k < xs.length) (hv : okWatch xs[k] = false) : atWatch xs k = false := by simp [atWatch, hk, hv]
theorem atWatch_0 {xs : List SWatch} {k : Nat} (hk : k < xs.length) (hv : okWatch xs[k] = true) (h0 : k = 0) : atWatch xs k = true := by subst h0; simp [atWatch, hk, hv]
theorem atWatch_ok {xs : List SWatch} {k : Nat} (hk : k < xs.length) (hv : okWatch xs[k] = true) (hc : ltWatch (xs[k-1]) xs[k] = true) : atWatch xs k = true := by rw [atWatch, dif_pos hk, hv, hc, Bool.true_and, Bool.or_true]
theorem atWatch_no {xs : List SWatch} {k : Nat} (hk : k < xs.length) (h0 : 0 < k) (hc : ltWatch (xs[k-1]) xs[k] = false) : atWatch xs k = false := by rw [atWatch, dif_pos hk, hc, decide_eq_false (show ¬ k = 0 by omega), Bool.or_false, Bool.and_false]
theorem vlWatch_len {xs : List SWatch} (h : vlWatch xs = true) : xs.length ≤ 32 := by simp only [vlWatch, Bool.and_eq_true, decide_eq_true_eq] at h; exact h.2
theorem atWatch_prev {xs : List SWatch} {k : Nat} (h : (List.range k).all (atWatch xs) = true) (h0 : 0 < k) (hk : k - 1 < xs.length) : okWatch (xs[k-1]) = true := by
  rw [List.all_eq_true] at h
  have := h (k - 1) (List.mem_range.2 (by omega))
  rw [atWatch, dif_pos hk, Bool.and_eq_true] at this
  exact this.1
theorem vlWatch_ok {xs : List SWatch} (h : vlWatch xs = true) : ∀ k (hk : k < xs.length), okWatch xs[k] = true := fun k hk => by
  simp only [vlWatch, Bool.and_eq_true, List.all_eq_true, List.mem_range] at h; have := h.1 k hk; simp only [atWatch, hk, dite_true, Bool.and_eq_true] at this; exact this.1
theorem vlWatch_lt {xs : List SWatch} (h : vlWatch xs = true) : ∀ k (hk : k < xs.length), 0 < k → ltWatch (xs[k-1]) xs[k] = true := fun k hk h0 => by
  simp only [vlWatch, Bool.and_eq_true, List.all_eq_true, List.mem_range] at h; have := h.1 k hk; simp only [atWatch, hk, dite_true, Bool.and_eq_true, Bool.or_eq_true, decide_eq_true_eq] at this; exact this.2.resolve_left (by omega)
theorem validWatch_any (x : SWatch) (w : World) (hs : x.Person.size ≤ 9223372036854775807) : Calls Try.prog 51 #[.agg #[.string x.Person, .int .i64 x.Start, .int .i64 x.Hours, .bool x.OnCall]] w fun e w' => e = .returned (.bool (okWatch x)) ∧ Below w.heap.size w w' := by
  go_enter Try.func51, Try.ntmps51
  go_wp2_with (first | (go_at_call 54; refine (IsName_any _ _ hs).mono ?_; rintro e w' ⟨rfl, rfl⟩) | (go_at_call 50; refine (within_any _ _ _ _).mono ?_; rintro e w' ⟨rfl, rfl⟩))
  all_goals
    go_ret
    exact ⟨ret_bool (by simp [okWatch, *]), (by repeat (first | (with_reducible assumption) | (with_reducible exact Below.refl _ _) | (with_reducible refine Bel.alloc ?_ _) | (with_reducible refine Below.drew ?_) | (with_reducible refine Bel.drewN ?_ _) | (with_reducible refine Bel.setCell ?_ (by (try simp) <;> omega) _) | (with_reducible refine Bel.trans ?_ (by assumption))))⟩
theorem l26One_any (x : SWatch) (b o : Nat) (w : World) (p0 : w.cell? ⟨b, o, none⟩ = some (.string x.Person)) (p1 : w.cell? ⟨b, o + 1, none⟩ = some (.int .i64 x.Start)) (p2 : w.cell? ⟨b, o + 2, none⟩ = some (.int .i64 x.Hours)) (p3 : w.cell? ⟨b, o + 3, none⟩ = some (.bool x.OnCall)) (hs : x.Person.size ≤ 9223372036854775807) :
    Calls Try.prog 53 #[.pointer (some ⟨b, o, none⟩)] w fun e w' => e = .returned (.bool (okWatch x)) ∧ w = w' := by
  go_enter Try.func53, Try.ntmps53
  go_wp2_with (first | (go_at_call 58; refine (l01Name_any _ _ hs).mono ?_; rintro e w' ⟨rfl, rfl⟩) | (go_at_call 49; refine (l00In_any _ _ _ _).mono ?_; rintro e w' ⟨rfl, rfl⟩))
  all_goals
    go_ret
    exact ⟨ret_bool (by simp [okWatch, *]), rfl⟩
theorem end_any (x : SWatch) (w : World) (h : okWatch x = true) : Calls Try.prog 46 #[.agg #[.string x.Person, .int .i64 x.Start, .int .i64 x.Hours, .bool x.OnCall]] w fun e w' => e = .returned (.int .i64 (x.Start + x.Hours)) ∧ Below w.heap.size w w' := by
  have hb := okWatch_bd h
  clear h
  go_enter Try.func46, Try.ntmps46
  go_wp2
  go_ret
  exact ⟨rfl, (by repeat (first | (with_reducible assumption) | (with_reducible exact Below.refl _ _) | (with_reducible refine Bel.alloc ?_ _) | (with_reducible refine Below.drew ?_) | (with_reducible refine Bel.drewN ?_ _) | (with_reducible refine Bel.setCell ?_ (by (try simp) <;> omega) _) | (with_reducible refine Bel.trans ?_ (by assumption))))⟩
theorem compareWatches_any (x y : SWatch) (w : World) : Calls Try.prog 52 #[.agg #[.string x.Person, .int .i64 x.Start, .int .i64 x.Hours, .bool x.OnCall], .agg #[.string y.Person, .int .i64 y.Start, .int .i64 y.Hours, .bool y.OnCall]] w fun e w' => e = .returned (.int .i64 (cmpWatch x y)) ∧ Below w.heap.size w w' := by
  go_enter Try.func52, Try.ntmps52
  go_wp2_with fail
  refine wp_box_out2 ?_
  intro W hbw B1 B2
  have p0 := Past.box B1 (j := 0) (v := .string x.Person) rfl
  have p1 := Past.box B1 (j := 1) (v := .int .i64 x.Start) rfl
  have p2 := Past.box B1 (j := 2) (v := .int .i64 x.Hours) rfl
  have p3 := Past.box B1 (j := 3) (v := .bool x.OnCall) rfl
  have q0 := Past.box B2 (j := 0) (v := .string y.Person) rfl
  have q1 := Past.box B2 (j := 1) (v := .int .i64 y.Start) rfl
  have q2 := Past.box B2 (j := 2) (v := .int .i64 y.Hours) rfl
  have q3 := Past.box B2 (j := 3) (v := .bool y.OnCall) rfl
  refine wp_region_past_tail 10 (by kernel_rfl) (by kernel_rfl) ?_
  simp only [List.take_succ_cons, List.take_zero, List.drop_succ_cons, List.drop_zero]
  repeat (go_big_quiet_step ((first | (go_at_call 57; exact Past.same _ (compareI_any _ _ _)) | (go_at_call 56; exact Past.same _ (compareS_any _ _ _)))))
  refine wpQuiet_nil ?_
  intro W1 hw'
  obtain ⟨⟨W_, hb1⟩, hw''⟩ := hw'
  subst hw''
  have hbw := Bel.trans hbw hb1
  clear B1 B2 hb1 p0 p1 p2 p3 q0 q1 q2 q3
  go_wp2_with fail
  refine calls_box_out ?_
  intro W2 hb2 B
  refine (or2_any _ _ _ _ _ (B.cell 0) (B.cell 1)).mono ?_
  rintro e w2 ⟨rfl, rfl⟩
  go_wp2
  go_ret
  exact ⟨rfl, Bel.trans hbw hb2⟩
theorem ValidWatches_any (xs : List SWatch) (b c : Nat) (w : World) (A : Arr SWatch.cells 4 w b xs) (hn : xs.length ≤ 1048576) (hf : ∀ i (h : i < xs.length), xs[i].Person.size ≤ 9223372036854775807) :
    Calls Try.prog 34 #[.slice (some ⟨b, 0, none⟩) xs.length c] w fun e w' => e = .returned (.bool (vlWatch xs)) ∧ Below w.heap.size w w' := by
  have HF := Lib.hid hf
  have HAA := Lib.hid A
  clear hf
  have hb := A.1
  by_cases hl : 32 < xs.length
  · go_enter Try.func34, Try.ntmps34
    go_wp2
    go_ret
    exact ⟨ret_bool (by rw [vlWatch, decide_eq_false (by omega), Bool.and_false]), Below.refl _ _⟩
  · go_enter Try.func34, Try.ntmps34
    go_wp2
    go_loopw [10] (fun i wr => ∃ k : Nat, k ≤ xs.length ∧ i = .int .i64 k ∧ Below w.heap.size w wr ∧ (List.range k).all (atWatch xs) = true) (fun i wr => xs.length - (intOf i).toNat)
    case atStart => exact ⟨0, by omega, rfl, Below.refl _ _, rfl⟩
    case round =>
      obtain ⟨k, hk, rfl, hbel, hall⟩ := hrel
      have HA := Lib.hid hall
      clear hall
      by_cases hlt : k < xs.length
      · obtain ⟨e0, e1, e2, e3⟩ := SWatch.elem (A.below hbel) hlt
        go_wp2_with fail
        refine wp_box_out ?_
        intro W hbw BX
        clear e0 e1 e2 e3
        have p0 := Past.box BX (j := 0) (v := .string xs[k].Person) rfl
        have p1 := Past.box BX (j := 1) (v := .int .i64 xs[k].Start) rfl
        have p2 := Past.box BX (j := 2) (v := .int .i64 xs[k].Hours) rfl
        have p3 := Past.box BX (j := 3) (v := .bool xs[k].OnCall) rfl
        have hbt := Bel.trans hbel hbw
        cases hv : okWatch xs[k]
        · have HV := Lib.hid hv
          clear hv
          refine wp_region_past (by kernel_rfl) (by kernel_rfl) ?_
          repeat (go_big_quiet_step ((go_at_call 51; exact Past.callB _ HV.out (validWatch_any xs[k] _ (HF.out k hlt)))))
          refine wpQuiet_nil ?_
          intro W1 hw'
          obtain ⟨⟨W_, hb1⟩, hw''⟩ := hw'
          subst hw''
          go_wp2
          go_ret
          exact ⟨ret_bool (by rw [vlWatch_no hlt (atWatch_bad hlt HV.out)]), Bel.trans hbt hb1⟩
        · have HV := Lib.hid hv
          have hkb := okWatch_bd hv
          clear hv
          by_cases h0 : k = 0
          · have hz : decide (0 < k) = false := by simp; omega
            have H0 := Lib.hid h0
            clear h0
            refine wp_region_past (by kernel_rfl) (by kernel_rfl) ?_
            repeat (go_big_quiet_step ((go_at_call 51; exact Past.callB _ HV.out (validWatch_any xs[k] _ (HF.out k hlt)))))
            refine wpQuiet_nil ?_
            intro W1 hw'
            obtain ⟨⟨W_, hb1⟩, hw''⟩ := hw'
            subst hw''
            have BX1 := BX.below hb1
            clear p0 p1 p2 p3
            have p0 := Past.box BX1 (j := 0) (v := .string xs[k].Person) rfl
            have p1 := Past.box BX1 (j := 1) (v := .int .i64 xs[k].Start) rfl
            have p2 := Past.box BX1 (j := 2) (v := .int .i64 xs[k].Hours) rfl
            have p3 := Past.box BX1 (j := 3) (v := .bool xs[k].OnCall) rfl
            go_wp2_with fail
            refine wp_region_past (by kernel_rfl) (by kernel_rfl) ?_
            repeat (go_big_quiet_step (fail))
            refine wpQuiet_nil ?_
            intro W2 hw'
            obtain ⟨⟨W_, hb2⟩, hw''⟩ := hw'
            subst hw''
            go_wp2
            go_roundw
            case rel => exact ⟨k+1, by omega, by go_num, Bel.trans (Bel.trans hbt hb1) hb2, all_range_snoc HA.out (atWatch_0 hlt HV.out H0.out)⟩
            case measure => simp [intOf]; omega
          · have hz : 0 < k := by omega
            have hz1 : (1 : Int) ≤ (k : Int) := by omega
            have hz2 : IntKind.i64.wrap ((k : Int) - 1) = (k : Int) - 1 := IntWalk.i64_in _ (by omega)
            have hz3 : ((k : Int) - 1).toNat = k - 1 := by omega
            have hpv := atWatch_prev HA.out hz (by omega)
            have hpb := okWatch_bd hpv
            have HPV := Lib.hid hpv
            clear hpv
            obtain ⟨f0, f1, f2, f3⟩ := SWatch.elems (A.below hbt) (show k - 1 < xs.length by omega)
            obtain ⟨c', hce⟩ : ∃ c', cmpWatch (xs[k-1]) xs[k] = c' := ⟨_, rfl⟩
            cases hcm : ltWatch (xs[k-1]) xs[k]
            · by_cases hc0 : 0 ≤ c'
              · have HC := Lib.hid hcm
                have HE := Lib.hid hce
                clear hcm hce
                refine wp_region_past (by kernel_rfl) (by kernel_rfl) ?_
                repeat (go_big_quiet_step ((first | (go_at_call 51; exact Past.callB _ HV.out (validWatch_any xs[k] _ (HF.out k hlt))) | (go_at_call 52; exact Past.callI _ HE.out (compareWatches_any (xs[k-1]) xs[k] _)))))
                refine wpQuiet_nil ?_
                intro W1 hw'
                obtain ⟨⟨W_, hb1⟩, hw''⟩ := hw'
                subst hw''
                go_wp2
                go_ret
                exact ⟨ret_bool (by rw [vlWatch_no hlt (atWatch_no hlt hz HC.out)]), Bel.trans hbt hb1⟩
              · obtain ⟨hs, hg⟩ := lw_rej hcm (by omega)
                have hs' : ((xs[k-1]).Person.toList == xs[k].Person.toList) = true := hs
                have HS := Lib.hid hs'
                have HC := Lib.hid hcm
                have HE := Lib.hid hce
                clear hcm hce hs hs'
                refine wp_region_past (by kernel_rfl) (by kernel_rfl) ?_
                repeat (go_big_quiet_step ((first | (go_at_call 51; exact Past.callB _ HV.out (validWatch_any xs[k] _ (HF.out k hlt))) | (go_at_call 52; exact Past.callI _ HE.out (compareWatches_any (xs[k-1]) xs[k] _)))))
                refine wpQuiet_nil ?_
                intro W1 hw'
                obtain ⟨⟨W_, hb1⟩, hw''⟩ := hw'
                subst hw''
                have BX1 := BX.below hb1
                have hbu := Bel.trans hbt hb1
                clear p0 p1 p2 p3 f0 f1 f2 f3
                have p0 := Past.box BX1 (j := 0) (v := .string xs[k].Person) rfl
                have p1 := Past.box BX1 (j := 1) (v := .int .i64 xs[k].Start) rfl
                have p2 := Past.box BX1 (j := 2) (v := .int .i64 xs[k].Hours) rfl
                have p3 := Past.box BX1 (j := 3) (v := .bool xs[k].OnCall) rfl
                obtain ⟨f0, f1, f2, f3⟩ := SWatch.elems (A.below hbu) (show k - 1 < xs.length by omega)
                have hs' := HS.out
                go_wp2_with fail
                refine wp_region_past (by kernel_rfl) (by kernel_rfl) ?_
                repeat (go_big_quiet_step ((go_at_call 46; exact Past.call _ (end_any (xs[k-1]) _ HPV.out))))
                refine wpQuiet_nil ?_
                intro W2 hw'
                obtain ⟨⟨W_, hb2⟩, hw''⟩ := hw'
                subst hw''
                go_wp2
                go_ret
                exact ⟨ret_bool (by rw [vlWatch_no hlt (atWatch_no hlt hz HC.out)]), Bel.trans hbu hb2⟩
            · have hc0 : c' < 0 := by rw [← hce]; exact lw_acc hcm (by omega)
              cases hs' : ((xs[k-1]).Person.toList == xs[k].Person.toList)
              · have HS := Lib.hid hs'
                have HC := Lib.hid hcm
                have HE := Lib.hid hce
                clear hcm hce hs'
                refine wp_region_past (by kernel_rfl) (by kernel_rfl) ?_
                repeat (go_big_quiet_step ((first | (go_at_call 51; exact Past.callB _ HV.out (validWatch_any xs[k] _ (HF.out k hlt))) | (go_at_call 52; exact Past.callI _ HE.out (compareWatches_any (xs[k-1]) xs[k] _)))))
                refine wpQuiet_nil ?_
                intro W1 hw'
                obtain ⟨⟨W_, hb1⟩, hw''⟩ := hw'
                subst hw''
                have BX1 := BX.below hb1
                have hbu := Bel.trans hbt hb1
                clear p0 p1 p2 p3 f0 f1 f2 f3
                have p0 := Past.box BX1 (j := 0) (v := .string xs[k].Person) rfl
                have p1 := Past.box BX1 (j := 1) (v := .int .i64 xs[k].Start) rfl
                have p2 := Past.box BX1 (j := 2) (v := .int .i64 xs[k].Hours) rfl
                have p3 := Past.box BX1 (j := 3) (v := .bool xs[k].OnCall) rfl
                obtain ⟨f0, f1, f2, f3⟩ := SWatch.elems (A.below hbu) (show k - 1 < xs.length by omega)
                have hs' := HS.out
                go_wp2_with fail
                refine wp_region_past (by kernel_rfl) (by kernel_rfl) ?_
                repeat (go_big_quiet_step (fail))
                refine wpQuiet_nil ?_
                intro W2 hw'
                obtain ⟨⟨W_, hb2⟩, hw''⟩ := hw'
                subst hw''
                go_wp2
                go_roundw
                case rel => exact ⟨k+1, by omega, by go_num, Bel.trans hbu hb2, all_range_snoc HA.out (atWatch_ok hlt HV.out HC.out)⟩
                case measure => simp [intOf]; omega
              · have hg := lw_acc_eq hcm hs'
                have HS := Lib.hid hs'
                have HC := Lib.hid hcm
                have HE := Lib.hid hce
                clear hcm hce hs'
                refine wp_region_past (by kernel_rfl) (by kernel_rfl) ?_
                repeat (go_big_quiet_step ((first | (go_at_call 51; exact Past.callB _ HV.out (validWatch_any xs[k] _ (HF.out k hlt))) | (go_at_call 52; exact Past.callI _ HE.out (compareWatches_any (xs[k-1]) xs[k] _)))))
                refine wpQuiet_nil ?_
                intro W1 hw'
                obtain ⟨⟨W_, hb1⟩, hw''⟩ := hw'
                subst hw''
                have BX1 := BX.below hb1
                have hbu := Bel.trans hbt hb1
                clear p0 p1 p2 p3 f0 f1 f2 f3
                have p0 := Past.box BX1 (j := 0) (v := .string xs[k].Person) rfl
                have p1 := Past.box BX1 (j := 1) (v := .int .i64 xs[k].Start) rfl
                have p2 := Past.box BX1 (j := 2) (v := .int .i64 xs[k].Hours) rfl
                have p3 := Past.box BX1 (j := 3) (v := .bool xs[k].OnCall) rfl
                obtain ⟨f0, f1, f2, f3⟩ := SWatch.elems (A.below hbu) (show k - 1 < xs.length by omega)
                have hs' := HS.out
                go_wp2_with fail
                refine wp_region_past (by kernel_rfl) (by kernel_rfl) ?_
                repeat (go_big_quiet_step ((go_at_call 46; exact Past.call _ (end_any (xs[k-1]) _ HPV.out))))
                refine wpQuiet_nil ?_
                intro W2 hw'
                obtain ⟨⟨W_, hb2⟩, hw''⟩ := hw'
                subst hw''
                go_wp2
                go_roundw
                case rel => exact ⟨k+1, by omega, by go_num, Bel.trans hbu hb2, all_range_snoc HA.out (atWatch_ok hlt HV.out HC.out)⟩
                case measure => simp [intOf]; omega
      · obtain rfl : k = xs.length := by omega
        go_wp2
        go_ret
        exact ⟨ret_bool (by rw [vlWatch, HA.out, decide_eq_true (by omega)]; rfl), hbel⟩
theorem l26Ok_any (xs : List SWatch) (b c : Nat) (w : World) (A : Arr SWatch.cells 4 w b xs) (hn : xs.length ≤ 1048576) (hf : ∀ i (h : i < xs.length), xs[i].Person.size ≤ 9223372036854775807) :
    Calls Try.prog 38 #[.slice (some ⟨b, 0, none⟩) xs.length c] w fun e w' => e = .returned (.bool (vlWatch xs)) ∧ Below w.heap.size w w' := by
  have HF := Lib.hid hf
  clear hf
  have hb := A.1
  go_enter Try.func38, Try.ntmps38
  go_wp2_with fail
  go_loopw [3] (fun i wr => ∃ k : Nat, k ≤ xs.length ∧ i = .int .i64 k ∧ Below w.heap.size w wr ∧ (List.range k).all (atWatch xs) = true) (fun i wr => xs.length - (intOf i).toNat)
  case atStart => exact ⟨0, by omega, rfl, Below.refl _ _, rfl⟩
  case round =>
    obtain ⟨k, hk, rfl, hbel, hall⟩ := hrel
    have HA := Lib.hid hall
    clear hall
    by_cases hlt : k < xs.length
    · obtain ⟨e0, e1, e2, e3⟩ := SWatch.elem (A.below hbel) hlt
      obtain ⟨p0, p1, p2, p3⟩ := SWatch.elems (A.below hbel) hlt
      cases hv : okWatch xs[k]
      · have HV := Lib.hid hv
        clear hv p0 p1 p2 p3
        go_wp2_with (go_at_call 53; refine (Calls.boolIs HV.out (l26One_any xs[k] b (k * 4) _ e0 e1 e2 e3 (HF.out k hlt))).mono ?_; rintro e w' ⟨rfl, rfl⟩)
        go_ret
        exact ⟨ret_bool (by rw [vlWatch_no hlt (atWatch_bad hlt HV.out)]), hbel⟩
      · have HV := Lib.hid hv
        have hkb := okWatch_bd hv
        clear hv
        by_cases h0 : k = 0
        · have hz : decide (0 < k) = false := by simp; omega
          have H0 := Lib.hid h0
          clear h0
          go_wp2_with (go_at_call 53; refine (Calls.boolIs HV.out (l26One_any xs[k] b (k * 4) _ e0 e1 e2 e3 (HF.out k hlt))).mono ?_; rintro e w' ⟨rfl, rfl⟩)
          clear e0 e1 e2 e3
          refine wp_region_past (by kernel_rfl) (by kernel_rfl) ?_
          repeat (go_big_quiet_step (fail))
          refine wpQuiet_nil ?_
          intro W1 hw'
          obtain ⟨⟨W_, hb1⟩, hw''⟩ := hw'
          subst hw''
          go_wp2
          go_roundw
          case rel => exact ⟨k+1, by omega, by go_num, Bel.trans hbel hb1, all_range_snoc HA.out (atWatch_0 hlt HV.out H0.out)⟩
          case measure => simp [intOf]; omega
        · have hz : 0 < k := by omega
          have hz1 : (1 : Int) ≤ (k : Int) := by omega
          have hz2 : IntKind.i64.wrap ((k : Int) - 1) = (k : Int) - 1 := IntWalk.i64_in _ (by omega)
          have hz3 : ((k : Int) - 1).toNat = k - 1 := by omega
          have hpv := atWatch_prev HA.out hz (by omega)
          have HPV := Lib.hid hpv
          clear hpv
          obtain ⟨f0, f1, f2, f3⟩ := SWatch.elems (A.below hbel) (show k - 1 < xs.length by omega)
          cases ha : Op.bytesLess (xs[k-1]).Person.toList xs[k].Person.toList
          · cases hs : ((xs[k-1]).Person.toList == xs[k].Person.toList)
            · have hcm : ltWatch (xs[k-1]) xs[k] = false := by unfold ltWatch samP; rw [ha, hs]; rfl
              have HC := Lib.hid hcm
              clear hcm
              have hbd := okWatch_bd HPV.out
              go_wp2_with (go_at_call 53; refine (Calls.boolIs HV.out (l26One_any xs[k] b (k * 4) _ e0 e1 e2 e3 (HF.out k hlt))).mono ?_; rintro e w' ⟨rfl, rfl⟩)
              clear e0 e1 e2 e3
              refine wp_region_past (by kernel_rfl) (by kernel_rfl) ?_
              repeat (go_big_quiet_step (fail))
              refine wpQuiet_nil ?_
              intro W1 hw'
              obtain ⟨⟨W_, hb1⟩, hw''⟩ := hw'
              subst hw''
              go_wp2
              go_ret
              exact ⟨ret_bool (by rw [vlWatch_no hlt (atWatch_no hlt hz HC.out)]), Bel.trans hbel hb1⟩
            · by_cases hg : xs[k].Start < (xs[k-1]).Start + (xs[k-1]).Hours
              · have hcm : ltWatch (xs[k-1]) xs[k] = false := by unfold ltWatch samP; rw [ha, hs, decide_eq_false (by omega)]; rfl
                have HC := Lib.hid hcm
                clear hcm
                have hbd := okWatch_bd HPV.out
                go_wp2_with (go_at_call 53; refine (Calls.boolIs HV.out (l26One_any xs[k] b (k * 4) _ e0 e1 e2 e3 (HF.out k hlt))).mono ?_; rintro e w' ⟨rfl, rfl⟩)
                clear e0 e1 e2 e3
                refine wp_region_past (by kernel_rfl) (by kernel_rfl) ?_
                repeat (go_big_quiet_step (fail))
                refine wpQuiet_nil ?_
                intro W1 hw'
                obtain ⟨⟨W_, hb1⟩, hw''⟩ := hw'
                subst hw''
                go_wp2
                go_ret
                exact ⟨ret_bool (by rw [vlWatch_no hlt (atWatch_no hlt hz HC.out)]), Bel.trans hbel hb1⟩
              · have hcm : ltWatch (xs[k-1]) xs[k] = true := by unfold ltWatch samP; rw [ha, hs, decide_eq_true (by omega)]; rfl
                have HC := Lib.hid hcm
                clear hcm
                have hbd := okWatch_bd HPV.out
                go_wp2_with (go_at_call 53; refine (Calls.boolIs HV.out (l26One_any xs[k] b (k * 4) _ e0 e1 e2 e3 (HF.out k hlt))).mono ?_; rintro e w' ⟨rfl, rfl⟩)
                clear e0 e1 e2 e3
                refine wp_region_past (by kernel_rfl) (by kernel_rfl) ?_
                repeat (go_big_quiet_step (fail))
                refine wpQuiet_nil ?_
                intro W1 hw'
                obtain ⟨⟨W_, hb1⟩, hw''⟩ := hw'
                subst hw''
                go_wp2
                go_roundw
                case rel => exact ⟨k+1, by omega, by go_num, Bel.trans hbel hb1, all_range_snoc HA.out (atWatch_ok hlt HV.out HC.out)⟩
                case measure => simp [intOf]; omega
          · have hs := bl_lt ha
            have hcm : ltWatch (xs[k-1]) xs[k] = true := by unfold ltWatch samP; rw [ha]; rfl
            have HC := Lib.hid hcm
            clear hcm
            have hbd := okWatch_bd HPV.out
            go_wp2_with (go_at_call 53; refine (Calls.boolIs HV.out (l26One_any xs[k] b (k * 4) _ e0 e1 e2 e3 (HF.out k hlt))).mono ?_; rintro e w' ⟨rfl, rfl⟩)
            clear e0 e1 e2 e3
            refine wp_region_past (by kernel_rfl) (by kernel_rfl) ?_
            repeat (go_big_quiet_step (fail))
            refine wpQuiet_nil ?_
            intro W1 hw'
            obtain ⟨⟨W_, hb1⟩, hw''⟩ := hw'
            subst hw''
            go_wp2
            go_roundw
            case rel => exact ⟨k+1, by omega, by go_num, Bel.trans hbel hb1, all_range_snoc HA.out (atWatch_ok hlt HV.out HC.out)⟩
            case measure => simp [intOf]; omega
    · obtain rfl : k = xs.length := by omega
      go_wp2
      go_ret
      exact ⟨ret_bool (by rw [vlWatch, HA.out, Bool.true_and]; simp <;> omega), hbel⟩
theorem sValidWatches_any (xs : List SWatch) (b c : Nat) (w : World) (A : Arr SWatch.cells 4 w b xs) (hn : xs.length ≤ 1048576) (hf : ∀ i (h : i < xs.length), xs[i].Person.size ≤ 9223372036854775807) :
    Calls Try.prog 33 #[.slice (some ⟨b, 0, none⟩) xs.length c] w fun e w' => e = .returned (.bool (vlWatch xs)) ∧ Below w.heap.size w w' := by
  have HA := Lib.hid A
  have HF := Lib.hid hf
  clear A hf
  go_enter Try.func33, Try.ntmps33
  go_wp2_with (go_at_call 38; refine (l26Ok_any xs b c _ HA.out hn HF.out).mono ?_; rintro e w1 ⟨rfl, hb1⟩)
  go_ret
  exact ⟨rfl, hb1⟩
end Go.Proofs.Ytbmekipbbkaocaa
