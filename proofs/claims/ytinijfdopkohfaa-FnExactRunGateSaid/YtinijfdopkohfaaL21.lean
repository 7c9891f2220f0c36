/- Chapter 21: valid gates, open gates: the walks. -/
import Derived.Test.YtinijfdopkohfaaL21p
namespace Go.Proofs.Ytinijfdopkohfaa
set_option linter.unusedSimpArgs false
set_option linter.unusedVariables false
open Go.RowKit
set_option maxHeartbeats 400000
set_option maxRecDepth 100000
def atGate (xs : List SGate) (i : Nat) : Bool := if h : i < xs.length then okGate xs[i] && (decide (i = 0) || !strLe (xs[i]).Id (xs[i-1]).Id) else false
def vlGate (xs : List SGate) : Bool := (List.range xs.length).all (atGate xs) && decide (xs.length ≤ 8)
theorem vlGate_no {xs : List SGate} {k : Nat} (hk : k < xs.length) (h : atGate xs k = false) : vlGate xs = false := by unfold vlGate; rw [all_range_no hk h, Bool.false_and]
theorem atGate_bad {xs : List SGate} {k : Nat} (hk : k < xs.length) (hv : okGate xs[k] = false) : atGate xs k = false := by simp [atGate, hk, hv]
theorem atGate_0 {xs : List SGate} {k : Nat} (hk : k < xs.length) (hv : okGate xs[k] = true) (h0 : k = 0) : atGate xs k = true := by subst h0; simp [atGate, hk, hv]
theorem atGate_ok {xs : List SGate} {k : Nat} (hk : k < xs.length) (hv : okGate xs[k] = true) (hc : strLe (xs[k]).Id (xs[k-1]).Id = false) : atGate xs k = true := by rw [atGate, dif_pos hk, hv, hc, Bool.true_and, Bool.not_false, Bool.or_true]
theorem atGate_no {xs : List SGate} {k : Nat} (hk : k < xs.length) (h0 : 0 < k) (hc : strLe (xs[k]).Id (xs[k-1]).Id = true) : atGate xs k = false := by rw [atGate, dif_pos hk, hc, decide_eq_false (show ¬ k = 0 by omega), Bool.not_true, Bool.or_false, Bool.and_false]
theorem vlGate_len {xs : List SGate} (h : vlGate xs = true) : xs.length ≤ 8 := by simp only [vlGate, Bool.and_eq_true, decide_eq_true_eq] at h; exact h.2
theorem vlGate_ok {xs : List SGate} (h : vlGate xs = true) : ∀ k (hk : k < xs.length), okGate xs[k] = true := fun k hk => by
  simp only [vlGate, Bool.and_eq_true, List.all_eq_true, List.mem_range] at h; have := h.1 k hk; simp only [atGate, hk, dite_true, Bool.and_eq_true] at this; exact this.1
theorem l21Hazard_any (n : Int) (w : World) : Calls Try.prog 80 #[.int .i64 n] w fun e w' => e = .returned (.bool (inr 0 1000 n)) ∧ w = w' := by
  go_enter Try.func80, Try.ntmps80
  go_wp2_with (go_at_call 53; refine (l00In_any _ _ _ _).mono ?_; rintro e w' ⟨rfl, rfl⟩)
  go_ret
  exact ⟨rfl, rfl⟩
theorem validGate_any (x : SGate) (w : World) (hs : x.Id.size ≤ 9223372036854775807) : Calls Try.prog 82 #[.agg #[.string x.Id, .int .i64 x.Shut, .int .i64 x.Open, .int .i64 x.Hold, .bool x.Shuts, .int .i64 x.Calm]] w fun e w' => e = .returned (.bool (okGate x)) ∧ Below w.heap.size w w' := by
  cases hh : inr 1 48 x.Hold
  · have HH := Lib.hid hh
    have hok : okGate x = false := by simp [okGate, hh]
    have HOK := Lib.hid hok
    clear hh hok
    go_enter Try.func82, Try.ntmps82
    go_wp2_with (first | (go_at_call 77; refine (IsName_any _ _ hs).mono ?_; rintro e w' ⟨rfl, rfl⟩) | (go_at_call 56; first | (with_reducible refine (Calls.boolIs HH.out (within_any x.Hold 1 48 _)).mono ?_; rintro e w' ⟨rfl, rfl⟩) | (refine (within_any _ _ _ _).mono ?_; rintro e w' ⟨rfl, rfl⟩)))
    all_goals
      go_ret
      exact ⟨ret_bool (by rw [HOK.out]), (by repeat (first | (with_reducible assumption) | (with_reducible exact Below.refl _ _) | (with_reducible refine Bel.alloc ?_ _) | (with_reducible refine Below.drew ?_) | (with_reducible refine Bel.drewN ?_ _) | (with_reducible refine Bel.setCell ?_ (by (try simp) <;> omega) _) | (with_reducible refine Bel.trans ?_ (by assumption))))⟩
  · obtain ⟨hh0, hh1⟩ := inr_bd' hh
    have HH := Lib.hid hh
    clear hh
    go_enter Try.func82, Try.ntmps82
    go_wp2_with (first | (go_at_call 77; refine (IsName_any _ _ hs).mono ?_; rintro e w' ⟨rfl, rfl⟩) | (go_at_call 56; first | (with_reducible refine (Calls.boolIs HH.out (within_any x.Hold 1 48 _)).mono ?_; rintro e w' ⟨rfl, rfl⟩) | (refine (within_any _ _ _ _).mono ?_; rintro e w' ⟨rfl, rfl⟩)))
    all_goals
      have hh := HH.out
      go_ret
      exact ⟨ret_bool (by simp_all [okGate] <;> (by_cases hc : x.Calm = 0 <;> simp [hc])), (by repeat (first | (with_reducible assumption) | (with_reducible exact Below.refl _ _) | (with_reducible refine Bel.alloc ?_ _) | (with_reducible refine Below.drew ?_) | (with_reducible refine Bel.drewN ?_ _) | (with_reducible refine Bel.setCell ?_ (by (try simp) <;> omega) _) | (with_reducible refine Bel.trans ?_ (by assumption))))⟩
theorem l21Ok_any (x : SGate) (b o : Nat) (w : World) (p0 : w.cell? ⟨b, o, none⟩ = some (.string x.Id)) (p1 : w.cell? ⟨b, o + 1, none⟩ = some (.int .i64 x.Shut)) (p2 : w.cell? ⟨b, o + 2, none⟩ = some (.int .i64 x.Open)) (p3 : w.cell? ⟨b, o + 3, none⟩ = some (.int .i64 x.Hold)) (p4 : w.cell? ⟨b, o + 4, none⟩ = some (.bool x.Shuts)) (p5 : w.cell? ⟨b, o + 5, none⟩ = some (.int .i64 x.Calm)) (hs : x.Id.size ≤ 9223372036854775807) :
    Calls Try.prog 68 #[.pointer (some ⟨b, o, none⟩)] w fun e w' => e = .returned (.bool (okGate x)) ∧ Below w.heap.size w w' := by
  have hl := lt_of_cell p0
  go_enter Try.func68, Try.ntmps68
  go_wp2_with fail
  have q0 := Past.cell p0 hl
  have q1 := Past.cell p1 hl
  have q2 := Past.cell p2 hl
  have q3 := Past.cell p3 hl
  have q4 := Past.cell p4 hl
  have q5 := Past.cell p5 hl
  clear p0 p1 p2 p3 p4 p5
  cases h0 : isName x.Id
  · have H0 := Lib.hid h0
    clear h0
    try (obtain ⟨hh0, hh1⟩ := inr_bd' H3.out; have hw := IntWalk.i64_in (x.Hold - 1) (by omega))
    refine wp_region_past (by kernel_rfl) (by kernel_rfl) ?_
    repeat (go_big_quiet_step ((first | (go_at_call 76; exact Past.sameB _ H0.out (l01Name_any x.Id _ hs)) | (go_at_call 53; first | (with_reducible exact Past.sameB _ H1.out (l00In_any x.Shut 1 1000 _)) | (with_reducible exact Past.sameB _ H2.out (l00In_any x.Open 0 x.Shut _)) | (with_reducible exact Past.sameB _ H3.out (l00In_any x.Hold 1 48 _)) | (with_reducible exact Past.sameB _ H4.out (l00In_any x.Calm 0 (x.Hold - 1) _))))))
    refine wpQuiet_nil ?_
    intro W1 hw'
    obtain ⟨⟨W_, hb1⟩, hw''⟩ := hw'
    subst hw''
    have r4 := q4 ⟨W1, hb1⟩
    have r5 := q5 ⟨W1, hb1⟩
    dsimp only at r4 r5
    try clear hw
    clear q0 q1 q2 q3 q4 q5
    go_wp2
    all_goals
      go_ret
      exact ⟨ret_bool (by simp [okGate, H0.out, *] <;> (by_cases hc : x.Calm = 0 <;> simp [hc])), hb1⟩
  · have H0 := Lib.hid h0
    clear h0
    cases h1 : inr 1 1000 x.Shut
    · have H1 := Lib.hid h1
      clear h1
      try (obtain ⟨hh0, hh1⟩ := inr_bd' H3.out; have hw := IntWalk.i64_in (x.Hold - 1) (by omega))
      refine wp_region_past (by kernel_rfl) (by kernel_rfl) ?_
      repeat (go_big_quiet_step ((first | (go_at_call 76; exact Past.sameB _ H0.out (l01Name_any x.Id _ hs)) | (go_at_call 53; first | (with_reducible exact Past.sameB _ H1.out (l00In_any x.Shut 1 1000 _)) | (with_reducible exact Past.sameB _ H2.out (l00In_any x.Open 0 x.Shut _)) | (with_reducible exact Past.sameB _ H3.out (l00In_any x.Hold 1 48 _)) | (with_reducible exact Past.sameB _ H4.out (l00In_any x.Calm 0 (x.Hold - 1) _))))))
      refine wpQuiet_nil ?_
      intro W1 hw'
      obtain ⟨⟨W_, hb1⟩, hw''⟩ := hw'
      subst hw''
      have r4 := q4 ⟨W1, hb1⟩
      have r5 := q5 ⟨W1, hb1⟩
      dsimp only at r4 r5
      try clear hw
      clear q0 q1 q2 q3 q4 q5
      go_wp2
      all_goals
        go_ret
        exact ⟨ret_bool (by simp [okGate, H0.out, H1.out, *] <;> (by_cases hc : x.Calm = 0 <;> simp [hc])), hb1⟩
    · have H1 := Lib.hid h1
      clear h1
      cases h2 : inr 0 x.Shut x.Open
      · have H2 := Lib.hid h2
        clear h2
        try (obtain ⟨hh0, hh1⟩ := inr_bd' H3.out; have hw := IntWalk.i64_in (x.Hold - 1) (by omega))
        refine wp_region_past (by kernel_rfl) (by kernel_rfl) ?_
        repeat (go_big_quiet_step ((first | (go_at_call 76; exact Past.sameB _ H0.out (l01Name_any x.Id _ hs)) | (go_at_call 53; first | (with_reducible exact Past.sameB _ H1.out (l00In_any x.Shut 1 1000 _)) | (with_reducible exact Past.sameB _ H2.out (l00In_any x.Open 0 x.Shut _)) | (with_reducible exact Past.sameB _ H3.out (l00In_any x.Hold 1 48 _)) | (with_reducible exact Past.sameB _ H4.out (l00In_any x.Calm 0 (x.Hold - 1) _))))))
        refine wpQuiet_nil ?_
        intro W1 hw'
        obtain ⟨⟨W_, hb1⟩, hw''⟩ := hw'
        subst hw''
        have r4 := q4 ⟨W1, hb1⟩
        have r5 := q5 ⟨W1, hb1⟩
        dsimp only at r4 r5
        try clear hw
        clear q0 q1 q2 q3 q4 q5
        go_wp2
        all_goals
          go_ret
          exact ⟨ret_bool (by simp [okGate, H0.out, H1.out, H2.out, *] <;> (by_cases hc : x.Calm = 0 <;> simp [hc])), hb1⟩
      · have H2 := Lib.hid h2
        clear h2
        cases h3 : inr 1 48 x.Hold
        · have H3 := Lib.hid h3
          clear h3
          try (obtain ⟨hh0, hh1⟩ := inr_bd' H3.out; have hw := IntWalk.i64_in (x.Hold - 1) (by omega))
          refine wp_region_past (by kernel_rfl) (by kernel_rfl) ?_
          repeat (go_big_quiet_step ((first | (go_at_call 76; exact Past.sameB _ H0.out (l01Name_any x.Id _ hs)) | (go_at_call 53; first | (with_reducible exact Past.sameB _ H1.out (l00In_any x.Shut 1 1000 _)) | (with_reducible exact Past.sameB _ H2.out (l00In_any x.Open 0 x.Shut _)) | (with_reducible exact Past.sameB _ H3.out (l00In_any x.Hold 1 48 _)) | (with_reducible exact Past.sameB _ H4.out (l00In_any x.Calm 0 (x.Hold - 1) _))))))
          refine wpQuiet_nil ?_
          intro W1 hw'
          obtain ⟨⟨W_, hb1⟩, hw''⟩ := hw'
          subst hw''
          have r4 := q4 ⟨W1, hb1⟩
          have r5 := q5 ⟨W1, hb1⟩
          dsimp only at r4 r5
          try clear hw
          clear q0 q1 q2 q3 q4 q5
          go_wp2
          all_goals
            go_ret
            exact ⟨ret_bool (by simp [okGate, H0.out, H1.out, H2.out, H3.out, *] <;> (by_cases hc : x.Calm = 0 <;> simp [hc])), hb1⟩
        · have H3 := Lib.hid h3
          clear h3
          cases h4 : inr 0 (x.Hold - 1) x.Calm
          · have H4 := Lib.hid h4
            clear h4
            try (obtain ⟨hh0, hh1⟩ := inr_bd' H3.out; have hw := IntWalk.i64_in (x.Hold - 1) (by omega))
            refine wp_region_past (by kernel_rfl) (by kernel_rfl) ?_
            repeat (go_big_quiet_step ((first | (go_at_call 76; exact Past.sameB _ H0.out (l01Name_any x.Id _ hs)) | (go_at_call 53; first | (with_reducible exact Past.sameB _ H1.out (l00In_any x.Shut 1 1000 _)) | (with_reducible exact Past.sameB _ H2.out (l00In_any x.Open 0 x.Shut _)) | (with_reducible exact Past.sameB _ H3.out (l00In_any x.Hold 1 48 _)) | (with_reducible exact Past.sameB _ H4.out (l00In_any x.Calm 0 (x.Hold - 1) _))))))
            refine wpQuiet_nil ?_
            intro W1 hw'
            obtain ⟨⟨W_, hb1⟩, hw''⟩ := hw'
            subst hw''
            have r4 := q4 ⟨W1, hb1⟩
            have r5 := q5 ⟨W1, hb1⟩
            dsimp only at r4 r5
            try clear hw
            clear q0 q1 q2 q3 q4 q5
            go_wp2
            all_goals
              go_ret
              exact ⟨ret_bool (by simp [okGate, H0.out, H1.out, H2.out, H3.out, H4.out, *] <;> (by_cases hc : x.Calm = 0 <;> simp [hc])), hb1⟩
          · have H4 := Lib.hid h4
            clear h4
            try (obtain ⟨hh0, hh1⟩ := inr_bd' H3.out; have hw := IntWalk.i64_in (x.Hold - 1) (by omega))
            refine wp_region_past (by kernel_rfl) (by kernel_rfl) ?_
            repeat (go_big_quiet_step ((first | (go_at_call 76; exact Past.sameB _ H0.out (l01Name_any x.Id _ hs)) | (go_at_call 53; first | (with_reducible exact Past.sameB _ H1.out (l00In_any x.Shut 1 1000 _)) | (with_reducible exact Past.sameB _ H2.out (l00In_any x.Open 0 x.Shut _)) | (with_reducible exact Past.sameB _ H3.out (l00In_any x.Hold 1 48 _)) | (with_reducible exact Past.sameB _ H4.out (l00In_any x.Calm 0 (x.Hold - 1) _))))))
            refine wpQuiet_nil ?_
            intro W1 hw'
            obtain ⟨⟨W_, hb1⟩, hw''⟩ := hw'
            subst hw''
            have r4 := q4 ⟨W1, hb1⟩
            have r5 := q5 ⟨W1, hb1⟩
            dsimp only at r4 r5
            try clear hw
            clear q0 q1 q2 q3 q4 q5
            go_wp2
            all_goals
              go_ret
              exact ⟨ret_bool (by simp [okGate, H0.out, H1.out, H2.out, H3.out, H4.out, *] <;> (by_cases hc : x.Calm = 0 <;> simp [hc])), hb1⟩
theorem ValidGates_any (xs : List SGate) (b c : Nat) (w : World) (A : Arr SGate.cells 6 w b xs) (hn : xs.length ≤ 1048576) (hf : ∀ i (h : i < xs.length), xs[i].Id.size ≤ 9223372036854775807) :
    Calls Try.prog 74 #[.slice (some ⟨b, 0, none⟩) xs.length c] w fun e w' => e = .returned (.bool (vlGate xs)) ∧ Below w.heap.size w w' := by
  have HF := Lib.hid hf
  clear hf
  have hb := A.1
  by_cases hl : 8 < xs.length
  · go_enter Try.func74, Try.ntmps74
    go_wp2
    go_ret
    exact ⟨ret_bool (by rw [vlGate, decide_eq_false (by omega), Bool.and_false]), Below.refl _ _⟩
  · go_enter Try.func74, Try.ntmps74
    go_wp2
    go_loopw [10] (fun i wr => ∃ k : Nat, k ≤ xs.length ∧ i = .int .i64 k ∧ Below w.heap.size w wr ∧ (List.range k).all (atGate xs) = true) (fun i wr => xs.length - (intOf i).toNat)
    case atStart => exact ⟨0, by omega, rfl, Below.refl _ _, rfl⟩
    case round =>
      obtain ⟨k, hk, rfl, hbel, hall⟩ := hrel
      have HA := Lib.hid hall
      clear hall
      by_cases hlt : k < xs.length
      · obtain ⟨e0, e1, e2, e3, e4, e5⟩ := SGate.elem (A.below hbel) hlt
        go_wp2_with fail
        refine wp_alloc_out ?_
        intro W hbw hsz hcl hfz
        clear e0 e1 e2 e3 e4 e5
        have hlw : wr.heap.size < W.heap.size := by omega
        obtain ⟨p0, p1, p2, p3, p4, p5⟩ := SGate.past (x := xs[k]) hcl hlw
        clear hcl hfz hsz
        have hbt := Bel.trans hbel hbw
        cases hv : okGate xs[k]
        · have HV := Lib.hid hv
          clear hv
          refine wp_region_past (by kernel_rfl) (by kernel_rfl) ?_
          repeat (go_big_quiet_step ((go_at_call 82; exact Past.callB _ HV.out (validGate_any xs[k] _ (HF.out k hlt)))))
          refine wpQuiet_nil ?_
          intro W1 hw'
          obtain ⟨⟨W_, hb1⟩, hw''⟩ := hw'
          subst hw''
          go_wp2
          go_ret
          exact ⟨ret_bool (by rw [vlGate_no hlt (atGate_bad hlt HV.out)]), Bel.trans hbt hb1⟩
        · have HV := Lib.hid hv
          clear hv
          by_cases h0 : k = 0
          · have hz : decide (0 < k) = false := by simp; omega
            have H0 := Lib.hid h0
            clear h0
            refine wp_region_past (by kernel_rfl) (by kernel_rfl) ?_
            repeat (go_big_quiet_step ((go_at_call 82; exact Past.callB _ HV.out (validGate_any xs[k] _ (HF.out k hlt)))))
            refine wpQuiet_nil ?_
            intro W1 hw'
            obtain ⟨⟨W_, hb1⟩, hw''⟩ := hw'
            subst hw''
            go_wp2
            go_roundw
            case rel => exact ⟨k+1, by omega, by go_num, Bel.trans hbt hb1, all_range_snoc HA.out (atGate_0 hlt HV.out H0.out)⟩
            case measure => simp [intOf]; omega
          · have hz : 0 < k := by omega
            have hz1 : (1 : Int) ≤ (k : Int) := by omega
            have hz2 : IntKind.i64.wrap ((k : Int) - 1) = (k : Int) - 1 := IntWalk.i64_in _ (by omega)
            have hz3 : ((k : Int) - 1).toNat = k - 1 := by omega
            obtain ⟨f0, f1, f2, f3, f4, f5⟩ := SGate.elems (A.below hbt) (show k - 1 < xs.length by omega)
            cases hcm : strLe (xs[k]).Id (xs[k-1]).Id
            · have HC := Lib.hid hcm; obtain ⟨hc1, hc2, hc3⟩ := strLe_no hcm; clear hcm
              refine wp_region_past (by kernel_rfl) (by kernel_rfl) ?_
              repeat (go_big_quiet_step ((go_at_call 82; exact Past.callB _ HV.out (validGate_any xs[k] _ (HF.out k hlt)))))
              refine wpQuiet_nil ?_
              intro W1 hw'
              obtain ⟨⟨W_, hb1⟩, hw''⟩ := hw'
              subst hw''
              go_wp2
              go_roundw
              case rel => exact ⟨k+1, by omega, by go_num, Bel.trans hbt hb1, all_range_snoc HA.out (atGate_ok hlt HV.out HC.out)⟩
              case measure => simp [intOf]; omega
            · have HC := Lib.hid hcm; obtain ⟨hc1, hc2⟩ := strLe_yes hcm; clear hcm
              refine wp_region_past (by kernel_rfl) (by kernel_rfl) ?_
              repeat (go_big_quiet_step ((go_at_call 82; exact Past.callB _ HV.out (validGate_any xs[k] _ (HF.out k hlt)))))
              refine wpQuiet_nil ?_
              intro W1 hw'
              obtain ⟨⟨W_, hb1⟩, hw''⟩ := hw'
              subst hw''
              go_wp2
              go_ret
              exact ⟨ret_bool (by rw [vlGate_no hlt (atGate_no hlt hz HC.out)]), Bel.trans hbt hb1⟩
      · obtain rfl : k = xs.length := by omega
        go_wp2
        go_ret
        exact ⟨ret_bool (by rw [vlGate, HA.out, decide_eq_true (by omega)]; rfl), hbel⟩
theorem l21List_any (xs : List SGate) (b c : Nat) (w : World) (A : Arr SGate.cells 6 w b xs) (hn : xs.length ≤ 1048576) (hf : ∀ i (h : i < xs.length), xs[i].Id.size ≤ 9223372036854775807) :
    Calls Try.prog 73 #[.slice (some ⟨b, 0, none⟩) xs.length c] w fun e w' => e = .returned (.bool (vlGate xs)) ∧ Below w.heap.size w w' := by
  have HF := Lib.hid hf
  clear hf
  have hb := A.1
  go_enter Try.func73, Try.ntmps73
  go_wp2_with fail
  go_loopw [3] (fun i wr => ∃ k : Nat, k ≤ xs.length ∧ i = .int .i64 k ∧ Below w.heap.size w wr ∧ (List.range k).all (atGate xs) = true) (fun i wr => xs.length - (intOf i).toNat)
  case atStart => exact ⟨0, by omega, rfl, Below.refl _ _, rfl⟩
  case round =>
    obtain ⟨k, hk, rfl, hbel, hall⟩ := hrel
    have HA := Lib.hid hall
    clear hall
    by_cases hlt : k < xs.length
    · obtain ⟨p0, p1, p2, p3, p4, p5⟩ := SGate.elems (A.below hbel) hlt
      go_wp2_with fail
      have hwf : ∀ p : Past wr, Calls Try.prog 68 #[.pointer (some ⟨b, k * 6, none⟩)] p.w fun e w' => e = .returned (.bool (okGate xs[k])) ∧ Below p.w.heap.size p.w w' := fun p => l21Ok_any xs[k] b (k * 6) p.w (p0 p) (p1 p) (p2 p) (p3 p) (p4 p) (p5 p) (HF.out k hlt)
      have HP := Lib.hid hwf
      clear hwf
      cases hv : okGate xs[k]
      · have HV := Lib.hid hv
        clear hv
        refine wp_region_past (by kernel_rfl) (by kernel_rfl) ?_
        repeat (go_big_quiet_step ((go_at_call 68; exact Past.callB _ HV.out (HP.out _))))
        refine wpQuiet_nil ?_
        intro W1 hw'
        obtain ⟨⟨W_, hb1⟩, hw''⟩ := hw'
        subst hw''
        go_wp2
        go_ret
        exact ⟨ret_bool (by rw [vlGate_no hlt (atGate_bad hlt HV.out)]), Bel.trans hbel hb1⟩
      · have HV := Lib.hid hv
        clear hv
        by_cases h0 : k = 0
        · have hz : decide (0 < k) = false := by simp; omega
          have H0 := Lib.hid h0
          clear h0
          refine wp_region_past (by kernel_rfl) (by kernel_rfl) ?_
          repeat (go_big_quiet_step ((go_at_call 68; exact Past.callB _ HV.out (HP.out _))))
          refine wpQuiet_nil ?_
          intro W1 hw'
          obtain ⟨⟨W_, hb1⟩, hw''⟩ := hw'
          subst hw''
          go_wp2
          go_roundw
          case rel => exact ⟨k+1, by omega, by go_num, Bel.trans hbel hb1, all_range_snoc HA.out (atGate_0 hlt HV.out H0.out)⟩
          case measure => simp [intOf]; omega
        · have hz : 0 < k := by omega
          have hz1 : (1 : Int) ≤ (k : Int) := by omega
          have hz2 : IntKind.i64.wrap ((k : Int) - 1) = (k : Int) - 1 := IntWalk.i64_in _ (by omega)
          have hz3 : ((k : Int) - 1).toNat = k - 1 := by omega
          obtain ⟨f0, f1, f2, f3, f4, f5⟩ := SGate.elems (A.below hbel) (show k - 1 < xs.length by omega)
          cases hcm : strLe (xs[k]).Id (xs[k-1]).Id
          · have HC := Lib.hid hcm; obtain ⟨hc1, hc2, hc3⟩ := strLe_no hcm; clear hcm
            refine wp_region_past (by kernel_rfl) (by kernel_rfl) ?_
            repeat (go_big_quiet_step ((go_at_call 68; exact Past.callB _ HV.out (HP.out _))))
            refine wpQuiet_nil ?_
            intro W1 hw'
            obtain ⟨⟨W_, hb1⟩, hw''⟩ := hw'
            subst hw''
            go_wp2
            go_roundw
            case rel => exact ⟨k+1, by omega, by go_num, Bel.trans hbel hb1, all_range_snoc HA.out (atGate_ok hlt HV.out HC.out)⟩
            case measure => simp [intOf]; omega
          · have HC := Lib.hid hcm; obtain ⟨hc1, hc2⟩ := strLe_yes hcm; clear hcm
            refine wp_region_past (by kernel_rfl) (by kernel_rfl) ?_
            repeat (go_big_quiet_step ((go_at_call 68; exact Past.callB _ HV.out (HP.out _))))
            refine wpQuiet_nil ?_
            intro W1 hw'
            obtain ⟨⟨W_, hb1⟩, hw''⟩ := hw'
            subst hw''
            go_wp2
            go_ret
            exact ⟨ret_bool (by rw [vlGate_no hlt (atGate_no hlt hz HC.out)]), Bel.trans hbel hb1⟩
    · obtain rfl : k = xs.length := by omega
      go_wp2
      go_ret
      exact ⟨ret_bool (by rw [vlGate, HA.out, Bool.true_and]; simp <;> omega), hbel⟩
end Go.Proofs.Ytinijfdopkohfaa
