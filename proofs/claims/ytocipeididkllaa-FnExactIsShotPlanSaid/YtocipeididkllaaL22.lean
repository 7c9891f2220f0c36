/- Chapter 22: valid shots: the walks. -/
import Derived.Test.YtocipeididkllaaNam
import Derived.Test.YtocipeididkllaaLst
namespace Go.Proofs.Ytocipeididkllaa
set_option linter.unusedSimpArgs false
set_option linter.unusedVariables false
open Go.RowKit
set_option maxHeartbeats 400000
set_option maxRecDepth 100000
def okShot (x : SShot) : Bool := isName x.Id && inr 0 1440 x.From && inr 0 1440 x.Until && inr 1 (min (x.Until - x.From) 240) x.Minutes && inr 0 1000 x.Gain
theorem shot_mm (x : SShot) : inr 1 (min (x.Until - x.From) 240) x.Minutes = (inr 1 240 x.Minutes && decide (x.From + x.Minutes ≤ x.Until)) := by
  rw [Bool.eq_iff_iff]
  simp [inr]
  omega
theorem okShot_eq (x : SShot) : okShot x = (isName x.Id && inr 0 1440 x.From && inr 0 1440 x.Until && (inr 1 240 x.Minutes && decide (x.From + x.Minutes ≤ x.Until)) && inr 0 1000 x.Gain) := by rw [okShot, shot_mm]
theorem okShot_bd {x : SShot} (h : okShot x = true) : 0 ≤ x.From ∧ x.From ≤ 1440 ∧ 0 ≤ x.Until ∧ x.Until ≤ 1440 ∧ 1 ≤ x.Minutes ∧ x.Minutes ≤ 240 ∧ x.From + x.Minutes ≤ x.Until ∧ 0 ≤ x.Gain ∧ x.Gain ≤ 1000 := by
  rw [okShot_eq] at h; simp [inr] at h; omega
def atShot (xs : List SShot) (i : Nat) : Bool := if h : i < xs.length then okShot xs[i] && (decide (i = 0) || !strLe (xs[i]).Id (xs[i-1]).Id) else false
def vlShot (xs : List SShot) : Bool := (List.range xs.length).all (atShot xs) && decide (xs.length ≤ 8)
theorem vlShot_no {xs : List SShot} {k : Nat} (hk : k < xs.length) (h : atShot xs k = false) : vlShot xs = false := by unfold vlShot; rw [all_range_no hk h, Bool.false_and]
theorem atShot_bad {xs : List SShot} {k : Nat} (hk : k < xs.length) (hv : okShot xs[k] = false) : atShot xs k = false := by simp [atShot, hk, hv]
theorem atShot_0 {xs : List SShot} {k : Nat} (hk : k < xs.length) (hv : okShot xs[k] = true) (h0 : k = 0) : atShot xs k = true := by subst h0; simp [atShot, hk, hv]
theorem atShot_ok {xs : List SShot} {k : Nat} (hk : k < xs.length) (hv : okShot xs[k] = true) (hc : strLe (xs[k]).Id (xs[k-1]).Id = false) : atShot xs k = true := by rw [atShot, dif_pos hk, hv, hc, Bool.true_and, Bool.not_false, Bool.or_true]
theorem atShot_no {xs : List SShot} {k : Nat} (hk : k < xs.length) (h0 : 0 < k) (hc : strLe (xs[k]).Id (xs[k-1]).Id = true) : atShot xs k = false := by rw [atShot, dif_pos hk, hc, decide_eq_false (show ¬ k = 0 by omega), Bool.not_true, Bool.or_false, Bool.and_false]
theorem vlShot_len {xs : List SShot} (h : vlShot xs = true) : xs.length ≤ 8 := by simp only [vlShot, Bool.and_eq_true, decide_eq_true_eq] at h; exact h.2
theorem vlShot_ok {xs : List SShot} (h : vlShot xs = true) : ∀ k (hk : k < xs.length), okShot xs[k] = true := fun k hk => by
  simp only [vlShot, Bool.and_eq_true, List.all_eq_true, List.mem_range] at h; have := h.1 k hk; simp only [atShot, hk, dite_true, Bool.and_eq_true] at this; exact this.1
theorem validShot_any (x : SShot) (w : World) (hs : x.Id.size ≤ 9223372036854775807) : Calls Try.prog 64 #[.agg #[.string x.Id, .int .i64 x.From, .int .i64 x.Until, .int .i64 x.Minutes, .int .i64 x.Gain]] w fun e w' => e = .returned (.bool (okShot x)) ∧ Below w.heap.size w w' := by
  by_cases hm : x.Until - x.From ≤ 240
  · have hmin : min (x.Until - x.From) 240 = x.Until - x.From := by omega
    cases h0 : isName x.Id
    · have H0 := Lib.hid h0
      clear h0
      have HMIN := Lib.hid hmin
      try rw [hmin] at H3
      try (obtain ⟨a0, a1⟩ := inr_bd' H1.out; obtain ⟨a2, a3⟩ := inr_bd' H2.out; have hw := IntWalk.i64_in (x.Until - x.From) (by omega))
      clear hmin
      go_enter Try.func64, Try.ntmps64
      go_wp2_with (first | (go_at_call 76; refine (Calls.boolIs H0.out (IsName_any _ _ hs)).mono ?_; rintro e w' ⟨rfl, rfl⟩) | (go_at_call 55; first | (with_reducible refine (Calls.boolIs H4.out (within_any x.Gain 0 1000 _)).mono ?_; rintro e w' ⟨rfl, rfl⟩) | (with_reducible refine (Calls.boolIs H3.out (within_any x.Minutes _ _ _)).mono ?_; rintro e w' ⟨rfl, rfl⟩) | (with_reducible refine (Calls.boolIs H2.out (within_any x.Until 0 1440 _)).mono ?_; rintro e w' ⟨rfl, rfl⟩) | (with_reducible refine (Calls.boolIs H1.out (within_any x.From 0 1440 _)).mono ?_; rintro e w' ⟨rfl, rfl⟩)))
      go_ret
      exact ⟨ret_bool (by simp [okShot, HMIN.out, H0.out]), (by repeat (first | (with_reducible assumption) | (with_reducible exact Below.refl _ _) | (with_reducible refine Bel.alloc ?_ _) | (with_reducible refine Below.drew ?_) | (with_reducible refine Bel.drewN ?_ _) | (with_reducible refine Bel.setCell ?_ (by (try simp) <;> omega) _) | (with_reducible refine Bel.trans ?_ (by assumption))))⟩
    · have H0 := Lib.hid h0
      clear h0
      cases h1 : inr 0 1440 x.From
      · have H1 := Lib.hid h1
        clear h1
        have HMIN := Lib.hid hmin
        try rw [hmin] at H3
        try (obtain ⟨a0, a1⟩ := inr_bd' H1.out; obtain ⟨a2, a3⟩ := inr_bd' H2.out; have hw := IntWalk.i64_in (x.Until - x.From) (by omega))
        clear hmin
        go_enter Try.func64, Try.ntmps64
        go_wp2_with (first | (go_at_call 76; refine (Calls.boolIs H0.out (IsName_any _ _ hs)).mono ?_; rintro e w' ⟨rfl, rfl⟩) | (go_at_call 55; first | (with_reducible refine (Calls.boolIs H4.out (within_any x.Gain 0 1000 _)).mono ?_; rintro e w' ⟨rfl, rfl⟩) | (with_reducible refine (Calls.boolIs H3.out (within_any x.Minutes _ _ _)).mono ?_; rintro e w' ⟨rfl, rfl⟩) | (with_reducible refine (Calls.boolIs H2.out (within_any x.Until 0 1440 _)).mono ?_; rintro e w' ⟨rfl, rfl⟩) | (with_reducible refine (Calls.boolIs H1.out (within_any x.From 0 1440 _)).mono ?_; rintro e w' ⟨rfl, rfl⟩)))
        go_ret
        exact ⟨ret_bool (by simp [okShot, HMIN.out, H0.out, H1.out]), (by repeat (first | (with_reducible assumption) | (with_reducible exact Below.refl _ _) | (with_reducible refine Bel.alloc ?_ _) | (with_reducible refine Below.drew ?_) | (with_reducible refine Bel.drewN ?_ _) | (with_reducible refine Bel.setCell ?_ (by (try simp) <;> omega) _) | (with_reducible refine Bel.trans ?_ (by assumption))))⟩
      · have H1 := Lib.hid h1
        clear h1
        cases h2 : inr 0 1440 x.Until
        · have H2 := Lib.hid h2
          clear h2
          have HMIN := Lib.hid hmin
          try rw [hmin] at H3
          try (obtain ⟨a0, a1⟩ := inr_bd' H1.out; obtain ⟨a2, a3⟩ := inr_bd' H2.out; have hw := IntWalk.i64_in (x.Until - x.From) (by omega))
          clear hmin
          go_enter Try.func64, Try.ntmps64
          go_wp2_with (first | (go_at_call 76; refine (Calls.boolIs H0.out (IsName_any _ _ hs)).mono ?_; rintro e w' ⟨rfl, rfl⟩) | (go_at_call 55; first | (with_reducible refine (Calls.boolIs H4.out (within_any x.Gain 0 1000 _)).mono ?_; rintro e w' ⟨rfl, rfl⟩) | (with_reducible refine (Calls.boolIs H3.out (within_any x.Minutes _ _ _)).mono ?_; rintro e w' ⟨rfl, rfl⟩) | (with_reducible refine (Calls.boolIs H2.out (within_any x.Until 0 1440 _)).mono ?_; rintro e w' ⟨rfl, rfl⟩) | (with_reducible refine (Calls.boolIs H1.out (within_any x.From 0 1440 _)).mono ?_; rintro e w' ⟨rfl, rfl⟩)))
          go_ret
          exact ⟨ret_bool (by simp [okShot, HMIN.out, H0.out, H1.out, H2.out]), (by repeat (first | (with_reducible assumption) | (with_reducible exact Below.refl _ _) | (with_reducible refine Bel.alloc ?_ _) | (with_reducible refine Below.drew ?_) | (with_reducible refine Bel.drewN ?_ _) | (with_reducible refine Bel.setCell ?_ (by (try simp) <;> omega) _) | (with_reducible refine Bel.trans ?_ (by assumption))))⟩
        · have H2 := Lib.hid h2
          clear h2
          cases h3 : inr 1 (min (x.Until - x.From) 240) x.Minutes
          · have H3 := Lib.hid h3
            clear h3
            have HMIN := Lib.hid hmin
            try rw [hmin] at H3
            try (obtain ⟨a0, a1⟩ := inr_bd' H1.out; obtain ⟨a2, a3⟩ := inr_bd' H2.out; have hw := IntWalk.i64_in (x.Until - x.From) (by omega))
            clear hmin
            go_enter Try.func64, Try.ntmps64
            go_wp2_with (first | (go_at_call 76; refine (Calls.boolIs H0.out (IsName_any _ _ hs)).mono ?_; rintro e w' ⟨rfl, rfl⟩) | (go_at_call 55; first | (with_reducible refine (Calls.boolIs H4.out (within_any x.Gain 0 1000 _)).mono ?_; rintro e w' ⟨rfl, rfl⟩) | (with_reducible refine (Calls.boolIs H3.out (within_any x.Minutes _ _ _)).mono ?_; rintro e w' ⟨rfl, rfl⟩) | (with_reducible refine (Calls.boolIs H2.out (within_any x.Until 0 1440 _)).mono ?_; rintro e w' ⟨rfl, rfl⟩) | (with_reducible refine (Calls.boolIs H1.out (within_any x.From 0 1440 _)).mono ?_; rintro e w' ⟨rfl, rfl⟩)))
            go_ret
            exact ⟨ret_bool (by simp [okShot, HMIN.out, H0.out, H1.out, H2.out, H3.out]), (by repeat (first | (with_reducible assumption) | (with_reducible exact Below.refl _ _) | (with_reducible refine Bel.alloc ?_ _) | (with_reducible refine Below.drew ?_) | (with_reducible refine Bel.drewN ?_ _) | (with_reducible refine Bel.setCell ?_ (by (try simp) <;> omega) _) | (with_reducible refine Bel.trans ?_ (by assumption))))⟩
          · have H3 := Lib.hid h3
            clear h3
            cases h4 : inr 0 1000 x.Gain
            · have H4 := Lib.hid h4
              clear h4
              have HMIN := Lib.hid hmin
              try rw [hmin] at H3
              try (obtain ⟨a0, a1⟩ := inr_bd' H1.out; obtain ⟨a2, a3⟩ := inr_bd' H2.out; have hw := IntWalk.i64_in (x.Until - x.From) (by omega))
              clear hmin
              go_enter Try.func64, Try.ntmps64
              go_wp2_with (first | (go_at_call 76; refine (Calls.boolIs H0.out (IsName_any _ _ hs)).mono ?_; rintro e w' ⟨rfl, rfl⟩) | (go_at_call 55; first | (with_reducible refine (Calls.boolIs H4.out (within_any x.Gain 0 1000 _)).mono ?_; rintro e w' ⟨rfl, rfl⟩) | (with_reducible refine (Calls.boolIs H3.out (within_any x.Minutes _ _ _)).mono ?_; rintro e w' ⟨rfl, rfl⟩) | (with_reducible refine (Calls.boolIs H2.out (within_any x.Until 0 1440 _)).mono ?_; rintro e w' ⟨rfl, rfl⟩) | (with_reducible refine (Calls.boolIs H1.out (within_any x.From 0 1440 _)).mono ?_; rintro e w' ⟨rfl, rfl⟩)))
              go_ret
              exact ⟨ret_bool (by simp [okShot, HMIN.out, H0.out, H1.out, H2.out, H3.out, H4.out]), (by repeat (first | (with_reducible assumption) | (with_reducible exact Below.refl _ _) | (with_reducible refine Bel.alloc ?_ _) | (with_reducible refine Below.drew ?_) | (with_reducible refine Bel.drewN ?_ _) | (with_reducible refine Bel.setCell ?_ (by (try simp) <;> omega) _) | (with_reducible refine Bel.trans ?_ (by assumption))))⟩
            · have H4 := Lib.hid h4
              clear h4
              have HMIN := Lib.hid hmin
              try rw [hmin] at H3
              try (obtain ⟨a0, a1⟩ := inr_bd' H1.out; obtain ⟨a2, a3⟩ := inr_bd' H2.out; have hw := IntWalk.i64_in (x.Until - x.From) (by omega))
              clear hmin
              go_enter Try.func64, Try.ntmps64
              go_wp2_with (first | (go_at_call 76; refine (Calls.boolIs H0.out (IsName_any _ _ hs)).mono ?_; rintro e w' ⟨rfl, rfl⟩) | (go_at_call 55; first | (with_reducible refine (Calls.boolIs H4.out (within_any x.Gain 0 1000 _)).mono ?_; rintro e w' ⟨rfl, rfl⟩) | (with_reducible refine (Calls.boolIs H3.out (within_any x.Minutes _ _ _)).mono ?_; rintro e w' ⟨rfl, rfl⟩) | (with_reducible refine (Calls.boolIs H2.out (within_any x.Until 0 1440 _)).mono ?_; rintro e w' ⟨rfl, rfl⟩) | (with_reducible refine (Calls.boolIs H1.out (within_any x.From 0 1440 _)).mono ?_; rintro e w' ⟨rfl, rfl⟩)))
              go_ret
              exact ⟨ret_bool (by simp [okShot, HMIN.out, H0.out, H1.out, H2.out, H3.out, H4.out]), (by repeat (first | (with_reducible assumption) | (with_reducible exact Below.refl _ _) | (with_reducible refine Bel.alloc ?_ _) | (with_reducible refine Below.drew ?_) | (with_reducible refine Bel.drewN ?_ _) | (with_reducible refine Bel.setCell ?_ (by (try simp) <;> omega) _) | (with_reducible refine Bel.trans ?_ (by assumption))))⟩
  · have hmin : min (x.Until - x.From) 240 = 240 := by omega
    cases h0 : isName x.Id
    · have H0 := Lib.hid h0
      clear h0
      have HMIN := Lib.hid hmin
      try rw [hmin] at H3
      try (obtain ⟨a0, a1⟩ := inr_bd' H1.out; obtain ⟨a2, a3⟩ := inr_bd' H2.out; have hw := IntWalk.i64_in (x.Until - x.From) (by omega))
      clear hmin
      go_enter Try.func64, Try.ntmps64
      go_wp2_with (first | (go_at_call 76; refine (Calls.boolIs H0.out (IsName_any _ _ hs)).mono ?_; rintro e w' ⟨rfl, rfl⟩) | (go_at_call 55; first | (with_reducible refine (Calls.boolIs H4.out (within_any x.Gain 0 1000 _)).mono ?_; rintro e w' ⟨rfl, rfl⟩) | (with_reducible refine (Calls.boolIs H3.out (within_any x.Minutes _ _ _)).mono ?_; rintro e w' ⟨rfl, rfl⟩) | (with_reducible refine (Calls.boolIs H2.out (within_any x.Until 0 1440 _)).mono ?_; rintro e w' ⟨rfl, rfl⟩) | (with_reducible refine (Calls.boolIs H1.out (within_any x.From 0 1440 _)).mono ?_; rintro e w' ⟨rfl, rfl⟩)))
      go_ret
      exact ⟨ret_bool (by simp [okShot, HMIN.out, H0.out]), (by repeat (first | (with_reducible assumption) | (with_reducible exact Below.refl _ _) | (with_reducible refine Bel.alloc ?_ _) | (with_reducible refine Below.drew ?_) | (with_reducible refine Bel.drewN ?_ _) | (with_reducible refine Bel.setCell ?_ (by (try simp) <;> omega) _) | (with_reducible refine Bel.trans ?_ (by assumption))))⟩
    · have H0 := Lib.hid h0
      clear h0
      cases h1 : inr 0 1440 x.From
      · have H1 := Lib.hid h1
        clear h1
        have HMIN := Lib.hid hmin
        try rw [hmin] at H3
        try (obtain ⟨a0, a1⟩ := inr_bd' H1.out; obtain ⟨a2, a3⟩ := inr_bd' H2.out; have hw := IntWalk.i64_in (x.Until - x.From) (by omega))
        clear hmin
        go_enter Try.func64, Try.ntmps64
        go_wp2_with (first | (go_at_call 76; refine (Calls.boolIs H0.out (IsName_any _ _ hs)).mono ?_; rintro e w' ⟨rfl, rfl⟩) | (go_at_call 55; first | (with_reducible refine (Calls.boolIs H4.out (within_any x.Gain 0 1000 _)).mono ?_; rintro e w' ⟨rfl, rfl⟩) | (with_reducible refine (Calls.boolIs H3.out (within_any x.Minutes _ _ _)).mono ?_; rintro e w' ⟨rfl, rfl⟩) | (with_reducible refine (Calls.boolIs H2.out (within_any x.Until 0 1440 _)).mono ?_; rintro e w' ⟨rfl, rfl⟩) | (with_reducible refine (Calls.boolIs H1.out (within_any x.From 0 1440 _)).mono ?_; rintro e w' ⟨rfl, rfl⟩)))
        go_ret
        exact ⟨ret_bool (by simp [okShot, HMIN.out, H0.out, H1.out]), (by repeat (first | (with_reducible assumption) | (with_reducible exact Below.refl _ _) | (with_reducible refine Bel.alloc ?_ _) | (with_reducible refine Below.drew ?_) | (with_reducible refine Bel.drewN ?_ _) | (with_reducible refine Bel.setCell ?_ (by (try simp) <;> omega) _) | (with_reducible refine Bel.trans ?_ (by assumption))))⟩
      · have H1 := Lib.hid h1
        clear h1
        cases h2 : inr 0 1440 x.Until
        · have H2 := Lib.hid h2
          clear h2
          have HMIN := Lib.hid hmin
          try rw [hmin] at H3
          try (obtain ⟨a0, a1⟩ := inr_bd' H1.out; obtain ⟨a2, a3⟩ := inr_bd' H2.out; have hw := IntWalk.i64_in (x.Until - x.From) (by omega))
          clear hmin
          go_enter Try.func64, Try.ntmps64
          go_wp2_with (first | (go_at_call 76; refine (Calls.boolIs H0.out (IsName_any _ _ hs)).mono ?_; rintro e w' ⟨rfl, rfl⟩) | (go_at_call 55; first | (with_reducible refine (Calls.boolIs H4.out (within_any x.Gain 0 1000 _)).mono ?_; rintro e w' ⟨rfl, rfl⟩) | (with_reducible refine (Calls.boolIs H3.out (within_any x.Minutes _ _ _)).mono ?_; rintro e w' ⟨rfl, rfl⟩) | (with_reducible refine (Calls.boolIs H2.out (within_any x.Until 0 1440 _)).mono ?_; rintro e w' ⟨rfl, rfl⟩) | (with_reducible refine (Calls.boolIs H1.out (within_any x.From 0 1440 _)).mono ?_; rintro e w' ⟨rfl, rfl⟩)))
          go_ret
          exact ⟨ret_bool (by simp [okShot, HMIN.out, H0.out, H1.out, H2.out]), (by repeat (first | (with_reducible assumption) | (with_reducible exact Below.refl _ _) | (with_reducible refine Bel.alloc ?_ _) | (with_reducible refine Below.drew ?_) | (with_reducible refine Bel.drewN ?_ _) | (with_reducible refine Bel.setCell ?_ (by (try simp) <;> omega) _) | (with_reducible refine Bel.trans ?_ (by assumption))))⟩
        · have H2 := Lib.hid h2
          clear h2
          cases h3 : inr 1 (min (x.Until - x.From) 240) x.Minutes
          · have H3 := Lib.hid h3
            clear h3
            have HMIN := Lib.hid hmin
            try rw [hmin] at H3
            try (obtain ⟨a0, a1⟩ := inr_bd' H1.out; obtain ⟨a2, a3⟩ := inr_bd' H2.out; have hw := IntWalk.i64_in (x.Until - x.From) (by omega))
            clear hmin
            go_enter Try.func64, Try.ntmps64
            go_wp2_with (first | (go_at_call 76; refine (Calls.boolIs H0.out (IsName_any _ _ hs)).mono ?_; rintro e w' ⟨rfl, rfl⟩) | (go_at_call 55; first | (with_reducible refine (Calls.boolIs H4.out (within_any x.Gain 0 1000 _)).mono ?_; rintro e w' ⟨rfl, rfl⟩) | (with_reducible refine (Calls.boolIs H3.out (within_any x.Minutes _ _ _)).mono ?_; rintro e w' ⟨rfl, rfl⟩) | (with_reducible refine (Calls.boolIs H2.out (within_any x.Until 0 1440 _)).mono ?_; rintro e w' ⟨rfl, rfl⟩) | (with_reducible refine (Calls.boolIs H1.out (within_any x.From 0 1440 _)).mono ?_; rintro e w' ⟨rfl, rfl⟩)))
            go_ret
            exact ⟨ret_bool (by simp [okShot, HMIN.out, H0.out, H1.out, H2.out, H3.out]), (by repeat (first | (with_reducible assumption) | (with_reducible exact Below.refl _ _) | (with_reducible refine Bel.alloc ?_ _) | (with_reducible refine Below.drew ?_) | (with_reducible refine Bel.drewN ?_ _) | (with_reducible refine Bel.setCell ?_ (by (try simp) <;> omega) _) | (with_reducible refine Bel.trans ?_ (by assumption))))⟩
          · have H3 := Lib.hid h3
            clear h3
            cases h4 : inr 0 1000 x.Gain
            · have H4 := Lib.hid h4
              clear h4
              have HMIN := Lib.hid hmin
              try rw [hmin] at H3
              try (obtain ⟨a0, a1⟩ := inr_bd' H1.out; obtain ⟨a2, a3⟩ := inr_bd' H2.out; have hw := IntWalk.i64_in (x.Until - x.From) (by omega))
              clear hmin
              go_enter Try.func64, Try.ntmps64
              go_wp2_with (first | (go_at_call 76; refine (Calls.boolIs H0.out (IsName_any _ _ hs)).mono ?_; rintro e w' ⟨rfl, rfl⟩) | (go_at_call 55; first | (with_reducible refine (Calls.boolIs H4.out (within_any x.Gain 0 1000 _)).mono ?_; rintro e w' ⟨rfl, rfl⟩) | (with_reducible refine (Calls.boolIs H3.out (within_any x.Minutes _ _ _)).mono ?_; rintro e w' ⟨rfl, rfl⟩) | (with_reducible refine (Calls.boolIs H2.out (within_any x.Until 0 1440 _)).mono ?_; rintro e w' ⟨rfl, rfl⟩) | (with_reducible refine (Calls.boolIs H1.out (within_any x.From 0 1440 _)).mono ?_; rintro e w' ⟨rfl, rfl⟩)))
              go_ret
              exact ⟨ret_bool (by simp [okShot, HMIN.out, H0.out, H1.out, H2.out, H3.out, H4.out]), (by repeat (first | (with_reducible assumption) | (with_reducible exact Below.refl _ _) | (with_reducible refine Bel.alloc ?_ _) | (with_reducible refine Below.drew ?_) | (with_reducible refine Bel.drewN ?_ _) | (with_reducible refine Bel.setCell ?_ (by (try simp) <;> omega) _) | (with_reducible refine Bel.trans ?_ (by assumption))))⟩
            · have H4 := Lib.hid h4
              clear h4
              have HMIN := Lib.hid hmin
              try rw [hmin] at H3
              try (obtain ⟨a0, a1⟩ := inr_bd' H1.out; obtain ⟨a2, a3⟩ := inr_bd' H2.out; have hw := IntWalk.i64_in (x.Until - x.From) (by omega))
              clear hmin
              go_enter Try.func64, Try.ntmps64
              go_wp2_with (first | (go_at_call 76; refine (Calls.boolIs H0.out (IsName_any _ _ hs)).mono ?_; rintro e w' ⟨rfl, rfl⟩) | (go_at_call 55; first | (with_reducible refine (Calls.boolIs H4.out (within_any x.Gain 0 1000 _)).mono ?_; rintro e w' ⟨rfl, rfl⟩) | (with_reducible refine (Calls.boolIs H3.out (within_any x.Minutes _ _ _)).mono ?_; rintro e w' ⟨rfl, rfl⟩) | (with_reducible refine (Calls.boolIs H2.out (within_any x.Until 0 1440 _)).mono ?_; rintro e w' ⟨rfl, rfl⟩) | (with_reducible refine (Calls.boolIs H1.out (within_any x.From 0 1440 _)).mono ?_; rintro e w' ⟨rfl, rfl⟩)))
              go_ret
              exact ⟨ret_bool (by simp [okShot, HMIN.out, H0.out, H1.out, H2.out, H3.out, H4.out]), (by repeat (first | (with_reducible assumption) | (with_reducible exact Below.refl _ _) | (with_reducible refine Bel.alloc ?_ _) | (with_reducible refine Below.drew ?_) | (with_reducible refine Bel.drewN ?_ _) | (with_reducible refine Bel.setCell ?_ (by (try simp) <;> omega) _) | (with_reducible refine Bel.trans ?_ (by assumption))))⟩
theorem l22One_any (x : SShot) (b o : Nat) (w : World) (p0 : w.cell? ⟨b, o, none⟩ = some (.string x.Id)) (p1 : w.cell? ⟨b, o + 1, none⟩ = some (.int .i64 x.From)) (p2 : w.cell? ⟨b, o + 2, none⟩ = some (.int .i64 x.Until)) (p3 : w.cell? ⟨b, o + 3, none⟩ = some (.int .i64 x.Minutes)) (p4 : w.cell? ⟨b, o + 4, none⟩ = some (.int .i64 x.Gain)) (hs : x.Id.size ≤ 9223372036854775807) :
    Calls Try.prog 74 #[.pointer (some ⟨b, o, none⟩)] w fun e w' => e = .returned (.bool (okShot x)) ∧ Below w.heap.size w w' := by
  have hl := lt_of_cell p0
  go_enter Try.func74, Try.ntmps74
  go_wp2_with fail
  have q0 := Past.cell p0 hl
  have q1 := Past.cell p1 hl
  have q2 := Past.cell p2 hl
  have q3 := Past.cell p3 hl
  have q4 := Past.cell p4 hl
  clear p0 p1 p2 p3 p4
  cases h0 : isName x.Id
  · have H0 := Lib.hid h0
    clear h0
    try (obtain ⟨a0, a1⟩ := inr_bd' H1.out; obtain ⟨a2, a3⟩ := inr_bd' H3.out; have hw := IntWalk.i64_in (x.From + x.Minutes) (by omega); have h4 := H4.out)
    refine wp_region_past (by kernel_rfl) (by kernel_rfl) ?_
    repeat (go_big_quiet_step ((first | (go_at_call 77; exact Past.sameB _ H0.out (l01Name_any x.Id _ hs)) | (go_at_call 69; first | (with_reducible exact Past.sameB _ H1.out (l00In_any x.From 0 1440 _)) | (with_reducible exact Past.sameB _ H2.out (l00In_any x.Until 0 1440 _)) | (with_reducible exact Past.sameB _ H3.out (l00In_any x.Minutes 1 240 _)) | (with_reducible exact Past.sameB _ H5.out (l00In_any x.Gain 0 1000 _))))))
    refine wpQuiet_nil ?_
    intro W1 hw'
    obtain ⟨⟨W_, hb1⟩, hw''⟩ := hw'
    subst hw''
    try clear hw
    try clear h4
    clear q0 q1 q2 q3 q4
    go_wp2
    go_ret
    exact ⟨ret_bool (by rw [okShot_eq]; simp [H0.out]), hb1⟩
  · have H0 := Lib.hid h0
    clear h0
    cases h1 : inr 0 1440 x.From
    · have H1 := Lib.hid h1
      clear h1
      try (obtain ⟨a0, a1⟩ := inr_bd' H1.out; obtain ⟨a2, a3⟩ := inr_bd' H3.out; have hw := IntWalk.i64_in (x.From + x.Minutes) (by omega); have h4 := H4.out)
      refine wp_region_past (by kernel_rfl) (by kernel_rfl) ?_
      repeat (go_big_quiet_step ((first | (go_at_call 77; exact Past.sameB _ H0.out (l01Name_any x.Id _ hs)) | (go_at_call 69; first | (with_reducible exact Past.sameB _ H1.out (l00In_any x.From 0 1440 _)) | (with_reducible exact Past.sameB _ H2.out (l00In_any x.Until 0 1440 _)) | (with_reducible exact Past.sameB _ H3.out (l00In_any x.Minutes 1 240 _)) | (with_reducible exact Past.sameB _ H5.out (l00In_any x.Gain 0 1000 _))))))
      refine wpQuiet_nil ?_
      intro W1 hw'
      obtain ⟨⟨W_, hb1⟩, hw''⟩ := hw'
      subst hw''
      try clear hw
      try clear h4
      clear q0 q1 q2 q3 q4
      go_wp2
      go_ret
      exact ⟨ret_bool (by rw [okShot_eq]; simp [H0.out, H1.out]), hb1⟩
    · have H1 := Lib.hid h1
      clear h1
      cases h2 : inr 0 1440 x.Until
      · have H2 := Lib.hid h2
        clear h2
        try (obtain ⟨a0, a1⟩ := inr_bd' H1.out; obtain ⟨a2, a3⟩ := inr_bd' H3.out; have hw := IntWalk.i64_in (x.From + x.Minutes) (by omega); have h4 := H4.out)
        refine wp_region_past (by kernel_rfl) (by kernel_rfl) ?_
        repeat (go_big_quiet_step ((first | (go_at_call 77; exact Past.sameB _ H0.out (l01Name_any x.Id _ hs)) | (go_at_call 69; first | (with_reducible exact Past.sameB _ H1.out (l00In_any x.From 0 1440 _)) | (with_reducible exact Past.sameB _ H2.out (l00In_any x.Until 0 1440 _)) | (with_reducible exact Past.sameB _ H3.out (l00In_any x.Minutes 1 240 _)) | (with_reducible exact Past.sameB _ H5.out (l00In_any x.Gain 0 1000 _))))))
        refine wpQuiet_nil ?_
        intro W1 hw'
        obtain ⟨⟨W_, hb1⟩, hw''⟩ := hw'
        subst hw''
        try clear hw
        try clear h4
        clear q0 q1 q2 q3 q4
        go_wp2
        go_ret
        exact ⟨ret_bool (by rw [okShot_eq]; simp [H0.out, H1.out, H2.out]), hb1⟩
      · have H2 := Lib.hid h2
        clear h2
        cases h3 : inr 1 240 x.Minutes
        · have H3 := Lib.hid h3
          clear h3
          try (obtain ⟨a0, a1⟩ := inr_bd' H1.out; obtain ⟨a2, a3⟩ := inr_bd' H3.out; have hw := IntWalk.i64_in (x.From + x.Minutes) (by omega); have h4 := H4.out)
          refine wp_region_past (by kernel_rfl) (by kernel_rfl) ?_
          repeat (go_big_quiet_step ((first | (go_at_call 77; exact Past.sameB _ H0.out (l01Name_any x.Id _ hs)) | (go_at_call 69; first | (with_reducible exact Past.sameB _ H1.out (l00In_any x.From 0 1440 _)) | (with_reducible exact Past.sameB _ H2.out (l00In_any x.Until 0 1440 _)) | (with_reducible exact Past.sameB _ H3.out (l00In_any x.Minutes 1 240 _)) | (with_reducible exact Past.sameB _ H5.out (l00In_any x.Gain 0 1000 _))))))
          refine wpQuiet_nil ?_
          intro W1 hw'
          obtain ⟨⟨W_, hb1⟩, hw''⟩ := hw'
          subst hw''
          try clear hw
          try clear h4
          clear q0 q1 q2 q3 q4
          go_wp2
          go_ret
          exact ⟨ret_bool (by rw [okShot_eq]; simp [H0.out, H1.out, H2.out, H3.out]), hb1⟩
        · have H3 := Lib.hid h3
          clear h3
          cases h4 : decide (x.From + x.Minutes ≤ x.Until)
          · have H4 := Lib.hid h4
            clear h4
            try (obtain ⟨a0, a1⟩ := inr_bd' H1.out; obtain ⟨a2, a3⟩ := inr_bd' H3.out; have hw := IntWalk.i64_in (x.From + x.Minutes) (by omega); have h4 := H4.out)
            refine wp_region_past (by kernel_rfl) (by kernel_rfl) ?_
            repeat (go_big_quiet_step ((first | (go_at_call 77; exact Past.sameB _ H0.out (l01Name_any x.Id _ hs)) | (go_at_call 69; first | (with_reducible exact Past.sameB _ H1.out (l00In_any x.From 0 1440 _)) | (with_reducible exact Past.sameB _ H2.out (l00In_any x.Until 0 1440 _)) | (with_reducible exact Past.sameB _ H3.out (l00In_any x.Minutes 1 240 _)) | (with_reducible exact Past.sameB _ H5.out (l00In_any x.Gain 0 1000 _))))))
            refine wpQuiet_nil ?_
            intro W1 hw'
            obtain ⟨⟨W_, hb1⟩, hw''⟩ := hw'
            subst hw''
            try clear hw
            try clear h4
            clear q0 q1 q2 q3 q4
            go_wp2
            go_ret
            exact ⟨ret_bool (by rw [okShot_eq]; simp [H0.out, H1.out, H2.out, H3.out, H4.out]), hb1⟩
          · have H4 := Lib.hid h4
            clear h4
            cases h5 : inr 0 1000 x.Gain
            · have H5 := Lib.hid h5
              clear h5
              try (obtain ⟨a0, a1⟩ := inr_bd' H1.out; obtain ⟨a2, a3⟩ := inr_bd' H3.out; have hw := IntWalk.i64_in (x.From + x.Minutes) (by omega); have h4 := H4.out)
              refine wp_region_past (by kernel_rfl) (by kernel_rfl) ?_
              repeat (go_big_quiet_step ((first | (go_at_call 77; exact Past.sameB _ H0.out (l01Name_any x.Id _ hs)) | (go_at_call 69; first | (with_reducible exact Past.sameB _ H1.out (l00In_any x.From 0 1440 _)) | (with_reducible exact Past.sameB _ H2.out (l00In_any x.Until 0 1440 _)) | (with_reducible exact Past.sameB _ H3.out (l00In_any x.Minutes 1 240 _)) | (with_reducible exact Past.sameB _ H5.out (l00In_any x.Gain 0 1000 _))))))
              refine wpQuiet_nil ?_
              intro W1 hw'
              obtain ⟨⟨W_, hb1⟩, hw''⟩ := hw'
              subst hw''
              try clear hw
              try clear h4
              clear q0 q1 q2 q3 q4
              go_wp2
              go_ret
              exact ⟨ret_bool (by rw [okShot_eq]; simp [H0.out, H1.out, H2.out, H3.out, H4.out, H5.out]), hb1⟩
            · have H5 := Lib.hid h5
              clear h5
              try (obtain ⟨a0, a1⟩ := inr_bd' H1.out; obtain ⟨a2, a3⟩ := inr_bd' H3.out; have hw := IntWalk.i64_in (x.From + x.Minutes) (by omega); have h4 := H4.out)
              refine wp_region_past (by kernel_rfl) (by kernel_rfl) ?_
              repeat (go_big_quiet_step ((first | (go_at_call 77; exact Past.sameB _ H0.out (l01Name_any x.Id _ hs)) | (go_at_call 69; first | (with_reducible exact Past.sameB _ H1.out (l00In_any x.From 0 1440 _)) | (with_reducible exact Past.sameB _ H2.out (l00In_any x.Until 0 1440 _)) | (with_reducible exact Past.sameB _ H3.out (l00In_any x.Minutes 1 240 _)) | (with_reducible exact Past.sameB _ H5.out (l00In_any x.Gain 0 1000 _))))))
              refine wpQuiet_nil ?_
              intro W1 hw'
              obtain ⟨⟨W_, hb1⟩, hw''⟩ := hw'
              subst hw''
              try clear hw
              try clear h4
              clear q0 q1 q2 q3 q4
              go_wp2
              go_ret
              exact ⟨ret_bool (by rw [okShot_eq]; simp [H0.out, H1.out, H2.out, H3.out, H4.out, H5.out]), hb1⟩
theorem ValidShots_any (xs : List SShot) (b c : Nat) (w : World) (A : Arr SShot.cells 5 w b xs) (hn : xs.length ≤ 1048576) (hf : ∀ i (h : i < xs.length), xs[i].Id.size ≤ 9223372036854775807) :
    Calls Try.prog 40 #[.slice (some ⟨b, 0, none⟩) xs.length c] w fun e w' => e = .returned (.bool (vlShot xs)) ∧ Below w.heap.size w w' := by
  have HF := Lib.hid hf
  clear hf
  have hb := A.1
  by_cases hl : 8 < xs.length
  · go_enter Try.func40, Try.ntmps40
    go_wp2
    go_ret
    exact ⟨ret_bool (by rw [vlShot, decide_eq_false (by omega), Bool.and_false]), Below.refl _ _⟩
  · go_enter Try.func40, Try.ntmps40
    go_wp2
    go_loopw [10] (fun i wr => ∃ k : Nat, k ≤ xs.length ∧ i = .int .i64 k ∧ Below w.heap.size w wr ∧ (List.range k).all (atShot xs) = true) (fun i wr => xs.length - (intOf i).toNat)
    case atStart => exact ⟨0, by omega, rfl, Below.refl _ _, rfl⟩
    case round =>
      obtain ⟨k, hk, rfl, hbel, hall⟩ := hrel
      have HA := Lib.hid hall
      clear hall
      by_cases hlt : k < xs.length
      · obtain ⟨e0, e1, e2, e3, e4⟩ := SShot.elem (A.below hbel) hlt
        go_wp2_with fail
        refine wp_alloc_out ?_
        intro W hbw hsz hcl hfz
        clear e0 e1 e2 e3 e4
        have hlw : wr.heap.size < W.heap.size := by omega
        obtain ⟨p0, p1, p2, p3, p4⟩ := SShot.past (x := xs[k]) hcl hlw
        clear hcl hfz hsz
        have hbt := Bel.trans hbel hbw
        cases hv : okShot xs[k]
        · have HV := Lib.hid hv
          clear hv
          refine wp_region_past (by kernel_rfl) (by kernel_rfl) ?_
          repeat (go_big_quiet_step ((go_at_call 64; exact Past.callB _ HV.out (validShot_any xs[k] _ (HF.out k hlt)))))
          refine wpQuiet_nil ?_
          intro W1 hw'
          obtain ⟨⟨W_, hb1⟩, hw''⟩ := hw'
          subst hw''
          go_wp2
          go_ret
          exact ⟨ret_bool (by rw [vlShot_no hlt (atShot_bad hlt HV.out)]), Bel.trans hbt hb1⟩
        · have HV := Lib.hid hv
          clear hv
          by_cases h0 : k = 0
          · have hz : decide (0 < k) = false := by simp; omega
            have H0 := Lib.hid h0
            clear h0
            refine wp_region_past (by kernel_rfl) (by kernel_rfl) ?_
            repeat (go_big_quiet_step ((go_at_call 64; exact Past.callB _ HV.out (validShot_any xs[k] _ (HF.out k hlt)))))
            refine wpQuiet_nil ?_
            intro W1 hw'
            obtain ⟨⟨W_, hb1⟩, hw''⟩ := hw'
            subst hw''
            go_wp2
            go_roundw
            case rel => exact ⟨k+1, by omega, by go_num, Bel.trans hbt hb1, all_range_snoc HA.out (atShot_0 hlt HV.out H0.out)⟩
            case measure => simp [intOf]; omega
          · have hz : 0 < k := by omega
            have hz1 : (1 : Int) ≤ (k : Int) := by omega
            have hz2 : IntKind.i64.wrap ((k : Int) - 1) = (k : Int) - 1 := IntWalk.i64_in _ (by omega)
            have hz3 : ((k : Int) - 1).toNat = k - 1 := by omega
            obtain ⟨f0, f1, f2, f3, f4⟩ := SShot.elems (A.below hbt) (show k - 1 < xs.length by omega)
            cases hcm : strLe (xs[k]).Id (xs[k-1]).Id
            · have HC := Lib.hid hcm; obtain ⟨hc1, hc2, hc3⟩ := strLe_no hcm; clear hcm
              refine wp_region_past (by kernel_rfl) (by kernel_rfl) ?_
              repeat (go_big_quiet_step ((go_at_call 64; exact Past.callB _ HV.out (validShot_any xs[k] _ (HF.out k hlt)))))
              refine wpQuiet_nil ?_
              intro W1 hw'
              obtain ⟨⟨W_, hb1⟩, hw''⟩ := hw'
              subst hw''
              go_wp2
              go_roundw
              case rel => exact ⟨k+1, by omega, by go_num, Bel.trans hbt hb1, all_range_snoc HA.out (atShot_ok hlt HV.out HC.out)⟩
              case measure => simp [intOf]; omega
            · have HC := Lib.hid hcm; obtain ⟨hc1, hc2⟩ := strLe_yes hcm; clear hcm
              refine wp_region_past (by kernel_rfl) (by kernel_rfl) ?_
              repeat (go_big_quiet_step ((go_at_call 64; exact Past.callB _ HV.out (validShot_any xs[k] _ (HF.out k hlt)))))
              refine wpQuiet_nil ?_
              intro W1 hw'
              obtain ⟨⟨W_, hb1⟩, hw''⟩ := hw'
              subst hw''
              go_wp2
              go_ret
              exact ⟨ret_bool (by rw [vlShot_no hlt (atShot_no hlt hz HC.out)]), Bel.trans hbt hb1⟩
      · obtain rfl : k = xs.length := by omega
        go_wp2
        go_ret
        exact ⟨ret_bool (by rw [vlShot, HA.out, decide_eq_true (by omega)]; rfl), hbel⟩
theorem l22Ok_any (xs : List SShot) (b c : Nat) (w : World) (A : Arr SShot.cells 5 w b xs) (hn : xs.length ≤ 1048576) (hf : ∀ i (h : i < xs.length), xs[i].Id.size ≤ 9223372036854775807) :
    Calls Try.prog 61 #[.slice (some ⟨b, 0, none⟩) xs.length c] w fun e w' => e = .returned (.bool (vlShot xs)) ∧ Below w.heap.size w w' := by
  have HF := Lib.hid hf
  clear hf
  have hb := A.1
  go_enter Try.func61, Try.ntmps61
  go_wp2_with fail
  go_loopw [3] (fun i wr => ∃ k : Nat, k ≤ xs.length ∧ i = .int .i64 k ∧ Below w.heap.size w wr ∧ (List.range k).all (atShot xs) = true) (fun i wr => xs.length - (intOf i).toNat)
  case atStart => exact ⟨0, by omega, rfl, Below.refl _ _, rfl⟩
  case round =>
    obtain ⟨k, hk, rfl, hbel, hall⟩ := hrel
    have HA := Lib.hid hall
    clear hall
    by_cases hlt : k < xs.length
    · obtain ⟨p0, p1, p2, p3, p4⟩ := SShot.elems (A.below hbel) hlt
      go_wp2_with fail
      have hwf : ∀ p : Past wr, Calls Try.prog 74 #[.pointer (some ⟨b, k * 5, none⟩)] p.w fun e w' => e = .returned (.bool (okShot xs[k])) ∧ Below p.w.heap.size p.w w' := fun p => l22One_any xs[k] b (k * 5) p.w (p0 p) (p1 p) (p2 p) (p3 p) (p4 p) (HF.out k hlt)
      have HP := Lib.hid hwf
      clear hwf
      cases hv : okShot xs[k]
      · have HV := Lib.hid hv
        clear hv
        refine wp_region_past (by kernel_rfl) (by kernel_rfl) ?_
        repeat (go_big_quiet_step ((go_at_call 74; exact Past.callB _ HV.out (HP.out _))))
        refine wpQuiet_nil ?_
        intro W1 hw'
        obtain ⟨⟨W_, hb1⟩, hw''⟩ := hw'
        subst hw''
        go_wp2
        go_ret
        exact ⟨ret_bool (by rw [vlShot_no hlt (atShot_bad hlt HV.out)]), Bel.trans hbel hb1⟩
      · have HV := Lib.hid hv
        clear hv
        by_cases h0 : k = 0
        · have hz : decide (0 < k) = false := by simp; omega
          have H0 := Lib.hid h0
          clear h0
          refine wp_region_past (by kernel_rfl) (by kernel_rfl) ?_
          repeat (go_big_quiet_step ((go_at_call 74; exact Past.callB _ HV.out (HP.out _))))
          refine wpQuiet_nil ?_
          intro W1 hw'
          obtain ⟨⟨W_, hb1⟩, hw''⟩ := hw'
          subst hw''
          go_wp2
          go_roundw
          case rel => exact ⟨k+1, by omega, by go_num, Bel.trans hbel hb1, all_range_snoc HA.out (atShot_0 hlt HV.out H0.out)⟩
          case measure => simp [intOf]; omega
        · have hz : 0 < k := by omega
          have hz1 : (1 : Int) ≤ (k : Int) := by omega
          have hz2 : IntKind.i64.wrap ((k : Int) - 1) = (k : Int) - 1 := IntWalk.i64_in _ (by omega)
          have hz3 : ((k : Int) - 1).toNat = k - 1 := by omega
          obtain ⟨f0, f1, f2, f3, f4⟩ := SShot.elems (A.below hbel) (show k - 1 < xs.length by omega)
          cases hcm : strLe (xs[k]).Id (xs[k-1]).Id
          · have HC := Lib.hid hcm; obtain ⟨hc1, hc2, hc3⟩ := strLe_no hcm; clear hcm
            refine wp_region_past (by kernel_rfl) (by kernel_rfl) ?_
            repeat (go_big_quiet_step ((go_at_call 74; exact Past.callB _ HV.out (HP.out _))))
            refine wpQuiet_nil ?_
            intro W1 hw'
            obtain ⟨⟨W_, hb1⟩, hw''⟩ := hw'
            subst hw''
            go_wp2
            go_roundw
            case rel => exact ⟨k+1, by omega, by go_num, Bel.trans hbel hb1, all_range_snoc HA.out (atShot_ok hlt HV.out HC.out)⟩
            case measure => simp [intOf]; omega
          · have HC := Lib.hid hcm; obtain ⟨hc1, hc2⟩ := strLe_yes hcm; clear hcm
            refine wp_region_past (by kernel_rfl) (by kernel_rfl) ?_
            repeat (go_big_quiet_step ((go_at_call 74; exact Past.callB _ HV.out (HP.out _))))
            refine wpQuiet_nil ?_
            intro W1 hw'
            obtain ⟨⟨W_, hb1⟩, hw''⟩ := hw'
            subst hw''
            go_wp2
            go_ret
            exact ⟨ret_bool (by rw [vlShot_no hlt (atShot_no hlt hz HC.out)]), Bel.trans hbel hb1⟩
    · obtain rfl : k = xs.length := by omega
      go_wp2
      go_ret
      exact ⟨ret_bool (by rw [vlShot, HA.out, Bool.true_and]; simp <;> omega), hbel⟩
end Go.Proofs.Ytocipeididkllaa
