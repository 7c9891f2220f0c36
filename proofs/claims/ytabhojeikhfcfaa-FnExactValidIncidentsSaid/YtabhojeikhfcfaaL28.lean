/- Chapter 28: incidents: valid ones, rates, shares, the worst one, days. -/
import Derived.Test.YtabhojeikhfcfaaNam
namespace Go.Proofs.Ytabhojeikhfcfaa
open Go.RowKit
set_option maxHeartbeats 400000
set_option maxRecDepth 100000
def okIncident (x : SIncident) : Bool := inr 0 36524 x.Day && isName x.Place && isName x.Cause && inr 1 5 x.Level && inr 0 20 x.Caught && inr 0 x.Caught x.Buried
def cmpI (a b : Int) : Int := if a < b then -1 else if b < a then 1 else 0
def cmpS (a b : ByteArray) : Int := if Op.bytesLess a.toList b.toList then -1 else if Op.bytesLess b.toList a.toList then 1 else 0
theorem cmpI_bd (a b : Int) : -1 ≤ cmpI a b ∧ cmpI a b ≤ 1 := by unfold cmpI; split <;> (try split) <;> omega
theorem cmpS_bd (a b : ByteArray) : -1 ≤ cmpS a b ∧ cmpS a b ≤ 1 := by unfold cmpS; split <;> (try split) <;> omega
def orI (a b : Int) : Int := if a = 0 then b else a
def cmpIncident (a b : SIncident) : Int := orI (cmpI a.Day b.Day) (orI (cmpS a.Place b.Place) (cmpS a.Cause b.Cause))
theorem cmpIncident_bd (a b : SIncident) : -1 ≤ cmpIncident a b ∧ cmpIncident a b ≤ 1 := by
  have h1 := cmpI_bd a.Day b.Day
  have h2 := cmpS_bd a.Place b.Place
  have h3 := cmpS_bd a.Cause b.Cause
  unfold cmpIncident orI
  split <;> (try split) <;> omega
/-- a comes before b -/
def ltIncident (a b : SIncident) : Bool := decide (cmpIncident a b < 0)
theorem bytes_no {a b : ByteArray} (h : (a.toList == b.toList) = false) (h2 : Op.bytesLess a.toList b.toList = false) : Op.bytesLess b.toList a.toList = true := by
  have t := bytes_tri a.toList b.toList
  rw [h, h2] at t
  simpa using t
theorem bytes_irr (x : List UInt8) : Op.bytesLess x x = false := by
  have t := bytes_tri x x
  simpa using t
def atIncident (xs : List SIncident) (i : Nat) : Bool := if h : i < xs.length then okIncident xs[i] && (decide (i = 0) || ltIncident (xs[i-1]) xs[i]) else false
def vlIncident (xs : List SIncident) : Bool := (List.range xs.length).all (atIncident xs) && decide (xs.length ≤ 48)
theorem vlIncident_no {xs : List SIncident} {k : Nat} (hk : k < xs.length) (h : atIncident xs k = false) : vlIncident xs = false := by unfold vlIncident; rw [all_range_no hk h, Bool.false_and]
theorem atIncident_bad {xs : List SIncident} {k : Nat} (hk : k < xs.length) (hv : okIncident xs[k] = false) : atIncident xs k = false := by simp [atIncident, hk, hv]
theorem atIncident_0 {xs : List SIncident} {k : Nat} (hk : k < xs.length) (hv : okIncident xs[k] = true) (h0 : k = 0) : atIncident xs k = true := by subst h0; simp [atIncident, hk, hv]
theorem atIncident_ok {xs : List SIncident} {k : Nat} (hk : k < xs.length) (hv : okIncident xs[k] = true) (hc : ltIncident (xs[k-1]) xs[k] = true) : atIncident xs k = true := by rw [atIncident, dif_pos hk, hv, hc, Bool.true_and, Bool.or_true]
theorem atIncident_no {xs : List SIncident} {k : Nat} (hk : k < xs.length) (h0 : 0 < k) (hc : ltIncident (xs[k-1]) xs[k] = false) : atIncident xs k = false := by rw [atIncident, dif_pos hk, hc, decide_eq_false (show ¬ k = 0 by omega), Bool.or_false, Bool.and_false]
theorem vlIncident_len {xs : List SIncident} (h : vlIncident xs = true) : xs.length ≤ 48 := by simp only [vlIncident, Bool.and_eq_true, decide_eq_true_eq] at h; exact h.2
theorem vlIncident_ok {xs : List SIncident} (h : vlIncident xs = true) : ∀ k (hk : k < xs.length), okIncident xs[k] = true := fun k hk => by
  simp only [vlIncident, Bool.and_eq_true, List.all_eq_true, List.mem_range] at h; have := h.1 k hk; simp only [atIncident, hk, dite_true, Bool.and_eq_true] at this; exact this.1
theorem vlIncident_lt {xs : List SIncident} (h : vlIncident xs = true) : ∀ k (hk : k < xs.length), 0 < k → ltIncident (xs[k-1]) xs[k] = true := fun k hk h0 => by
  simp only [vlIncident, Bool.and_eq_true, List.all_eq_true, List.mem_range] at h; have := h.1 k hk; simp only [atIncident, hk, dite_true, Bool.and_eq_true, Bool.or_eq_true, decide_eq_true_eq] at this; exact this.2.resolve_left (by omega)
theorem validIncident_any (x : SIncident) (w : World) (hs : x.Place.size ≤ 9223372036854775807 ∧ x.Cause.size ≤ 9223372036854775807) : Calls Try.prog 46 #[.agg #[.int .i64 x.Day, .string x.Place, .string x.Cause, .int .i64 x.Level, .int .i64 x.Caught, .int .i64 x.Buried]] w fun e w' => e = .returned (.bool (okIncident x)) ∧ Below w.heap.size w w' := by
  have hs1 := hs.1
  have hs2 := hs.2
  go_enter Try.func46, Try.ntmps46
  go_wp2_with (first | (go_at_call 36; refine (dayValid_any _ _).mono ?_; rintro e w' ⟨rfl, rfl⟩) | (go_at_call 44; refine (levelOk_any _ _).mono ?_; rintro e w' ⟨rfl, rfl⟩) | (go_at_call 56; refine (IsName_any _ _ (by assumption)).mono ?_; rintro e w' ⟨rfl, rfl⟩) | (go_at_call 38; refine (within_any _ _ _ _).mono ?_; rintro e w' ⟨rfl, rfl⟩))
  all_goals
    go_ret
    exact ⟨ret_bool (by simp [okIncident, *]), (by repeat (first | (with_reducible assumption) | (with_reducible exact Below.refl _ _) | (with_reducible refine Bel.alloc ?_ _) | (with_reducible refine Below.drew ?_) | (with_reducible refine Bel.drewN ?_ _) | (with_reducible refine Bel.setCell ?_ (by (try simp) <;> omega) _) | (with_reducible refine Bel.trans ?_ (by assumption))))⟩
theorem l28One_any (x : SIncident) (b o : Nat) (w : World) (p0 : w.cell? ⟨b, o, none⟩ = some (.int .i64 x.Day)) (p1 : w.cell? ⟨b, o + 1, none⟩ = some (.string x.Place)) (p2 : w.cell? ⟨b, o + 2, none⟩ = some (.string x.Cause)) (p3 : w.cell? ⟨b, o + 3, none⟩ = some (.int .i64 x.Level)) (p4 : w.cell? ⟨b, o + 4, none⟩ = some (.int .i64 x.Caught)) (p5 : w.cell? ⟨b, o + 5, none⟩ = some (.int .i64 x.Buried)) (hs : x.Place.size ≤ 9223372036854775807 ∧ x.Cause.size ≤ 9223372036854775807) :
    Calls Try.prog 50 #[.pointer (some ⟨b, o, none⟩)] w fun e w' => e = .returned (.bool (okIncident x)) ∧ Below w.heap.size w w' := by
  have hs1 := hs.1
  have hs2 := hs.2
  have hl := lt_of_cell p0
  go_enter Try.func50, Try.ntmps50
  go_wp2_with fail
  have q0 := Past.cell p0 hl
  have q1 := Past.cell p1 hl
  have q2 := Past.cell p2 hl
  have q3 := Past.cell p3 hl
  have q4 := Past.cell p4 hl
  have q5 := Past.cell p5 hl
  clear p0 p1 p2 p3 p4 p5
  cases h0 : inr 0 36524 x.Day
  · have H0 := Lib.hid h0
    clear h0
    refine wp_region_past (by kernel_rfl) (by kernel_rfl) ?_
    repeat (go_big_quiet_step ((first | (go_at_call 35; exact Past.sameB _ H0.out (l02Day_any _ _)) | (go_at_call 43; exact Past.sameB _ H3.out (l17Is_any _ _)) | (go_at_call 59; first | (with_reducible exact Past.sameB _ H1.out (l01Name_any x.Place _ hs1)) | (with_reducible exact Past.sameB _ H2.out (l01Name_any x.Cause _ hs2))) | (go_at_call 53; first | (with_reducible exact Past.sameB _ H4.out (l00In_any x.Caught 0 20 _)) | (with_reducible exact Past.sameB _ H5.out (l00In_any x.Buried 0 x.Caught _))))))
    refine wpQuiet_nil ?_
    intro W1 hw'
    obtain ⟨⟨W_, hb1⟩, hw''⟩ := hw'
    subst hw''
    go_wp2
    go_ret
    exact ⟨ret_bool (by simp [okIncident, H0.out]), hb1⟩
  · have H0 := Lib.hid h0
    clear h0
    cases h1 : isName x.Place
    · have H1 := Lib.hid h1
      clear h1
      refine wp_region_past (by kernel_rfl) (by kernel_rfl) ?_
      repeat (go_big_quiet_step ((first | (go_at_call 35; exact Past.sameB _ H0.out (l02Day_any _ _)) | (go_at_call 43; exact Past.sameB _ H3.out (l17Is_any _ _)) | (go_at_call 59; first | (with_reducible exact Past.sameB _ H1.out (l01Name_any x.Place _ hs1)) | (with_reducible exact Past.sameB _ H2.out (l01Name_any x.Cause _ hs2))) | (go_at_call 53; first | (with_reducible exact Past.sameB _ H4.out (l00In_any x.Caught 0 20 _)) | (with_reducible exact Past.sameB _ H5.out (l00In_any x.Buried 0 x.Caught _))))))
      refine wpQuiet_nil ?_
      intro W1 hw'
      obtain ⟨⟨W_, hb1⟩, hw''⟩ := hw'
      subst hw''
      go_wp2
      go_ret
      exact ⟨ret_bool (by simp [okIncident, H0.out, H1.out]), hb1⟩
    · have H1 := Lib.hid h1
      clear h1
      cases h2 : isName x.Cause
      · have H2 := Lib.hid h2
        clear h2
        refine wp_region_past (by kernel_rfl) (by kernel_rfl) ?_
        repeat (go_big_quiet_step ((first | (go_at_call 35; exact Past.sameB _ H0.out (l02Day_any _ _)) | (go_at_call 43; exact Past.sameB _ H3.out (l17Is_any _ _)) | (go_at_call 59; first | (with_reducible exact Past.sameB _ H1.out (l01Name_any x.Place _ hs1)) | (with_reducible exact Past.sameB _ H2.out (l01Name_any x.Cause _ hs2))) | (go_at_call 53; first | (with_reducible exact Past.sameB _ H4.out (l00In_any x.Caught 0 20 _)) | (with_reducible exact Past.sameB _ H5.out (l00In_any x.Buried 0 x.Caught _))))))
        refine wpQuiet_nil ?_
        intro W1 hw'
        obtain ⟨⟨W_, hb1⟩, hw''⟩ := hw'
        subst hw''
        go_wp2
        go_ret
        exact ⟨ret_bool (by simp [okIncident, H0.out, H1.out, H2.out]), hb1⟩
      · have H2 := Lib.hid h2
        clear h2
        cases h3 : inr 1 5 x.Level
        · have H3 := Lib.hid h3
          clear h3
          refine wp_region_past (by kernel_rfl) (by kernel_rfl) ?_
          repeat (go_big_quiet_step ((first | (go_at_call 35; exact Past.sameB _ H0.out (l02Day_any _ _)) | (go_at_call 43; exact Past.sameB _ H3.out (l17Is_any _ _)) | (go_at_call 59; first | (with_reducible exact Past.sameB _ H1.out (l01Name_any x.Place _ hs1)) | (with_reducible exact Past.sameB _ H2.out (l01Name_any x.Cause _ hs2))) | (go_at_call 53; first | (with_reducible exact Past.sameB _ H4.out (l00In_any x.Caught 0 20 _)) | (with_reducible exact Past.sameB _ H5.out (l00In_any x.Buried 0 x.Caught _))))))
          refine wpQuiet_nil ?_
          intro W1 hw'
          obtain ⟨⟨W_, hb1⟩, hw''⟩ := hw'
          subst hw''
          go_wp2
          go_ret
          exact ⟨ret_bool (by simp [okIncident, H0.out, H1.out, H2.out, H3.out]), hb1⟩
        · have H3 := Lib.hid h3
          clear h3
          cases h4 : inr 0 20 x.Caught
          · have H4 := Lib.hid h4
            clear h4
            refine wp_region_past (by kernel_rfl) (by kernel_rfl) ?_
            repeat (go_big_quiet_step ((first | (go_at_call 35; exact Past.sameB _ H0.out (l02Day_any _ _)) | (go_at_call 43; exact Past.sameB _ H3.out (l17Is_any _ _)) | (go_at_call 59; first | (with_reducible exact Past.sameB _ H1.out (l01Name_any x.Place _ hs1)) | (with_reducible exact Past.sameB _ H2.out (l01Name_any x.Cause _ hs2))) | (go_at_call 53; first | (with_reducible exact Past.sameB _ H4.out (l00In_any x.Caught 0 20 _)) | (with_reducible exact Past.sameB _ H5.out (l00In_any x.Buried 0 x.Caught _))))))
            refine wpQuiet_nil ?_
            intro W1 hw'
            obtain ⟨⟨W_, hb1⟩, hw''⟩ := hw'
            subst hw''
            go_wp2
            go_ret
            exact ⟨ret_bool (by simp [okIncident, H0.out, H1.out, H2.out, H3.out, H4.out]), hb1⟩
          · have H4 := Lib.hid h4
            clear h4
            cases h5 : inr 0 x.Caught x.Buried
            · have H5 := Lib.hid h5
              clear h5
              refine wp_region_past (by kernel_rfl) (by kernel_rfl) ?_
              repeat (go_big_quiet_step ((first | (go_at_call 35; exact Past.sameB _ H0.out (l02Day_any _ _)) | (go_at_call 43; exact Past.sameB _ H3.out (l17Is_any _ _)) | (go_at_call 59; first | (with_reducible exact Past.sameB _ H1.out (l01Name_any x.Place _ hs1)) | (with_reducible exact Past.sameB _ H2.out (l01Name_any x.Cause _ hs2))) | (go_at_call 53; first | (with_reducible exact Past.sameB _ H4.out (l00In_any x.Caught 0 20 _)) | (with_reducible exact Past.sameB _ H5.out (l00In_any x.Buried 0 x.Caught _))))))
              refine wpQuiet_nil ?_
              intro W1 hw'
              obtain ⟨⟨W_, hb1⟩, hw''⟩ := hw'
              subst hw''
              go_wp2
              go_ret
              exact ⟨ret_bool (by simp [okIncident, H0.out, H1.out, H2.out, H3.out, H4.out, H5.out]), hb1⟩
            · have H5 := Lib.hid h5
              clear h5
              refine wp_region_past (by kernel_rfl) (by kernel_rfl) ?_
              repeat (go_big_quiet_step ((first | (go_at_call 35; exact Past.sameB _ H0.out (l02Day_any _ _)) | (go_at_call 43; exact Past.sameB _ H3.out (l17Is_any _ _)) | (go_at_call 59; first | (with_reducible exact Past.sameB _ H1.out (l01Name_any x.Place _ hs1)) | (with_reducible exact Past.sameB _ H2.out (l01Name_any x.Cause _ hs2))) | (go_at_call 53; first | (with_reducible exact Past.sameB _ H4.out (l00In_any x.Caught 0 20 _)) | (with_reducible exact Past.sameB _ H5.out (l00In_any x.Buried 0 x.Caught _))))))
              refine wpQuiet_nil ?_
              intro W1 hw'
              obtain ⟨⟨W_, hb1⟩, hw''⟩ := hw'
              subst hw''
              go_wp2
              go_ret
              exact ⟨ret_bool (by simp [okIncident, H0.out, H1.out, H2.out, H3.out, H4.out, H5.out]), hb1⟩
theorem compareI_any (a b : Int) (w : World) : Calls Try.prog 49 #[.int .i64 a, .int .i64 b] w fun e w' => e = .returned (.int .i64 (cmpI a b)) ∧ w = w' := by
  go_enter Try.func49, Try.ntmps49
  go_wp2
  all_goals
    go_ret
    exact ⟨ret_int (by simp [cmpI, *] <;> omega), rfl⟩
theorem cmpS_lt {a b : ByteArray} (h : Op.bytesLess a.toList b.toList = true) : (-1 : Int) = cmpS a b := by rw [cmpS, if_pos h]
theorem cmpS_gt {a b : ByteArray} (h : Op.bytesLess a.toList b.toList = false) (h2 : (!a.toList == b.toList) = true) : (1 : Int) = cmpS a b := by
  have h3 := bytes_no (by simpa using h2) h
  rw [cmpS, h, h3]; rfl
theorem cmpS_eq {a b : ByteArray} (h : Op.bytesLess a.toList b.toList = false) (h2 : (!a.toList == b.toList) = false) : (0 : Int) = cmpS a b := by
  have h3 : a.toList = b.toList := by simpa using h2
  rw [cmpS, h3, bytes_irr]; rfl
theorem compareS_any (a b : ByteArray) (w : World) : Calls Try.prog 57 #[.string a, .string b] w fun e w' => e = .returned (.int .i64 (cmpS a b)) ∧ w = w' := by
  go_enter Try.func57, Try.ntmps57
  go_wp2
  all_goals
    go_ret
    exact ⟨ret_int (by first | exact cmpS_lt (by assumption) | exact cmpS_gt (by assumption) (by assumption) | exact cmpS_eq (by assumption) (by assumption)), rfl⟩
theorem or2_any (a b : Int) (g c : Nat) (w : World) (h0 : w.cell? ⟨g, 0, none⟩ = some (.int .i64 a)) (h1 : w.cell? ⟨g, 1, none⟩ = some (.int .i64 b)) :
    Calls Try.prog 48 #[.slice (some ⟨g, 0, none⟩) 2 c] w fun e w' => e = .returned (.int .i64 (orI a b)) ∧ w = w' := by
  go_enter Try.func48, Try.ntmps48
  go_wp2_with fail
  go_loop [8] (fun i => ∃ k : Nat, k ≤ 2 ∧ i = .int .i64 k ∧ (0 < k → a = 0) ∧ (1 < k → b = 0)) (fun i => 2 - (intOf i).toNat)
  case atStart => exact ⟨0, by omega, rfl, by omega, by omega⟩
  case round =>
    obtain ⟨k, hk, rfl, ha, hb⟩ := hrel
    have HA := Lib.hid ha
    have HB := Lib.hid hb
    clear ha hb
    by_cases k0 : k = 0
    · subst k0
      go_wp2
      all_goals first
        | (go_ret
           exact ⟨ret_int (by simp [orI, (show a ≠ 0 by simpa using (show (a != 0) = true by assumption))]), rfl⟩)
        | (go_round
           case rel => exact ⟨1, by omega, by go_num, fun _ => (show a = 0 by simpa using (show (a != 0) = false by assumption)), by omega⟩
           case measure => simp [intOf])
    · by_cases k1 : k = 1
      · subst k1
        go_wp2
        all_goals first
          | (go_ret
             exact ⟨ret_int (by simp [orI, HA.out (by omega)]), rfl⟩)
          | (go_round
             case rel => exact ⟨2, by omega, by go_num, fun _ => HA.out (by omega), fun _ => (show b = 0 by simpa using (show (b != 0) = false by assumption))⟩
             case measure => simp [intOf])
      · obtain rfl : k = 2 := by omega
        go_wp2
        go_ret
        exact ⟨ret_int (by simp [orI, HA.out (by omega), HB.out (by omega)]), rfl⟩
theorem or3_any (a b d : Int) (g c : Nat) (w : World) (h0 : w.cell? ⟨g, 0, none⟩ = some (.int .i64 a)) (h1 : w.cell? ⟨g, 1, none⟩ = some (.int .i64 b)) (h2 : w.cell? ⟨g, 2, none⟩ = some (.int .i64 d)) :
    Calls Try.prog 48 #[.slice (some ⟨g, 0, none⟩) 3 c] w fun e w' => e = .returned (.int .i64 (orI a (orI b d))) ∧ w = w' := by
  go_enter Try.func48, Try.ntmps48
  go_wp2_with fail
  go_loop [8] (fun i => ∃ k : Nat, k ≤ 3 ∧ i = .int .i64 k ∧ (0 < k → a = 0) ∧ (1 < k → b = 0) ∧ (2 < k → d = 0)) (fun i => 3 - (intOf i).toNat)
  case atStart => exact ⟨0, by omega, rfl, by omega, by omega, by omega⟩
  case round =>
    obtain ⟨k, hk, rfl, ha, hb, hd⟩ := hrel
    have HA := Lib.hid ha
    have HB := Lib.hid hb
    have HD := Lib.hid hd
    clear ha hb hd
    by_cases k0 : k = 0
    · subst k0
      go_wp2
      all_goals first
        | (go_ret
           exact ⟨ret_int (by simp [orI, (show a ≠ 0 by simpa using (show (a != 0) = true by assumption))]), rfl⟩)
        | (go_round
           case rel => exact ⟨1, by omega, by go_num, fun _ => (show a = 0 by simpa using (show (a != 0) = false by assumption)), by omega, by omega⟩
           case measure => simp [intOf])
    · by_cases k1 : k = 1
      · subst k1
        go_wp2
        all_goals first
          | (go_ret
             exact ⟨ret_int (by simp [orI, HA.out (by omega), (show b ≠ 0 by simpa using (show (b != 0) = true by assumption))]), rfl⟩)
          | (go_round
             case rel => exact ⟨2, by omega, by go_num, fun _ => HA.out (by omega), fun _ => (show b = 0 by simpa using (show (b != 0) = false by assumption)), by omega⟩
             case measure => simp [intOf])
      · by_cases k2 : k = 2
        · subst k2
          go_wp2
          all_goals first
            | (go_ret
               exact ⟨ret_int (by simp [orI, HA.out (by omega), HB.out (by omega)]), rfl⟩)
            | (go_round
               case rel => exact ⟨3, by omega, by go_num, fun _ => HA.out (by omega), fun _ => HB.out (by omega), fun _ => (show d = 0 by simpa using (show (d != 0) = false by assumption))⟩
               case measure => simp [intOf])
        · obtain rfl : k = 3 := by omega
          go_wp2
          go_ret
          exact ⟨ret_int (by simp [orI, HA.out (by omega), HB.out (by omega), HD.out (by omega)]), rfl⟩
theorem compareIncidents_any (x y : SIncident) (w : World) : Calls Try.prog 47 #[.agg #[.int .i64 x.Day, .string x.Place, .string x.Cause, .int .i64 x.Level, .int .i64 x.Caught, .int .i64 x.Buried], .agg #[.int .i64 y.Day, .string y.Place, .string y.Cause, .int .i64 y.Level, .int .i64 y.Caught, .int .i64 y.Buried]] w fun e w' => e = .returned (.int .i64 (cmpIncident x y)) ∧ Below w.heap.size w w' := by
  go_enter Try.func47, Try.ntmps47
  go_wp2_with fail
  refine wp_box_out2 ?_
  intro W hbw B1 B2
  have p0 := Past.box B1 (j := 0) (v := .int .i64 x.Day) rfl
  have p1 := Past.box B1 (j := 1) (v := .string x.Place) rfl
  have p2 := Past.box B1 (j := 2) (v := .string x.Cause) rfl
  have p3 := Past.box B1 (j := 3) (v := .int .i64 x.Level) rfl
  have p4 := Past.box B1 (j := 4) (v := .int .i64 x.Caught) rfl
  have p5 := Past.box B1 (j := 5) (v := .int .i64 x.Buried) rfl
  have q0 := Past.box B2 (j := 0) (v := .int .i64 y.Day) rfl
  have q1 := Past.box B2 (j := 1) (v := .string y.Place) rfl
  have q2 := Past.box B2 (j := 2) (v := .string y.Cause) rfl
  have q3 := Past.box B2 (j := 3) (v := .int .i64 y.Level) rfl
  have q4 := Past.box B2 (j := 4) (v := .int .i64 y.Caught) rfl
  have q5 := Past.box B2 (j := 5) (v := .int .i64 y.Buried) rfl
  refine wp_region_past_tail 15 (by kernel_rfl) (by kernel_rfl) ?_
  simp only [List.take_succ_cons, List.take_zero, List.drop_succ_cons, List.drop_zero]
  repeat (go_big_quiet_step ((first | (go_at_call 49; exact Past.same _ (compareI_any _ _ _)) | (go_at_call 57; exact Past.same _ (compareS_any _ _ _)))))
  refine wpQuiet_nil ?_
  intro W1 hw'
  obtain ⟨⟨W_, hb1⟩, hw''⟩ := hw'
  subst hw''
  have hbw := Bel.trans hbw hb1
  clear B1 B2 hb1
  clear p0 p1 p2 p3 p4 p5 q0 q1 q2 q3 q4 q5
  go_wp2_with fail
  refine calls_box_out ?_
  intro W2 hb2 B
  refine (or3_any _ _ _ _ _ _ (B.cell 0) (B.cell 1) (B.cell 2)).mono ?_
  rintro e w2 ⟨rfl, rfl⟩
  go_wp2
  go_ret
  exact ⟨rfl, Bel.trans hbw hb2⟩
theorem bl_lt {a b : ByteArray} (h : Op.bytesLess a.toList b.toList = true) : (a.toList == b.toList) = false := by
  cases e : (a.toList == b.toList)
  · rfl
  · rw [beq_iff_eq] at e; rw [e, bytes_irr] at h; exact absurd h (by simp)
theorem cmpS_lt0 (a b : ByteArray) : decide (cmpS a b < 0) = Op.bytesLess a.toList b.toList := by
  unfold cmpS; cases Op.bytesLess a.toList b.toList <;> simp; split <;> omega
theorem cmpS_0 {a b : ByteArray} (h : (a.toList == b.toList) = true) : cmpS a b = 0 := by
  rw [beq_iff_eq] at h; rw [cmpS, h, bytes_irr]; rfl
theorem cmpS_n0 {a b : ByteArray} (h : (a.toList == b.toList) = false) : cmpS a b ≠ 0 := by
  unfold cmpS; cases h2 : Op.bytesLess a.toList b.toList
  · rw [bytes_no h h2]; simp
  · simp
theorem lt_1 {x y : SIncident} (h : x.Day ≠ y.Day) : ltIncident x y = decide (x.Day < y.Day) := by
  have h1 : cmpI x.Day y.Day ≠ 0 := by unfold cmpI; split <;> (try split) <;> omega
  rw [ltIncident, cmpIncident, orI, if_neg h1, decide_eq_decide]; unfold cmpI; split <;> (try split) <;> omega
theorem lt_2 {x y : SIncident} (h : x.Day = y.Day) (h2 : (x.Place.toList == y.Place.toList) = false) : ltIncident x y = Op.bytesLess x.Place.toList y.Place.toList := by
  have h1 : cmpI x.Day y.Day = 0 := by unfold cmpI; split <;> (try split) <;> omega
  rw [ltIncident, cmpIncident, orI, if_pos h1, orI, if_neg (cmpS_n0 h2), cmpS_lt0]
theorem lt_3 {x y : SIncident} (h : x.Day = y.Day) (h2 : (x.Place.toList == y.Place.toList) = true) : ltIncident x y = Op.bytesLess x.Cause.toList y.Cause.toList := by
  have h1 : cmpI x.Day y.Day = 0 := by unfold cmpI; split <;> (try split) <;> omega
  rw [ltIncident, cmpIncident, orI, if_pos h1, orI, if_pos (cmpS_0 h2), cmpS_lt0]
theorem l28Before_any (x y : SIncident) (b1 o1 b2 o2 : Nat) (w : World) (p0 : w.cell? ⟨b1, o1, none⟩ = some (.int .i64 x.Day)) (p1 : w.cell? ⟨b1, o1 + 1, none⟩ = some (.string x.Place)) (p2 : w.cell? ⟨b1, o1 + 2, none⟩ = some (.string x.Cause)) (p3 : w.cell? ⟨b1, o1 + 3, none⟩ = some (.int .i64 x.Level)) (p4 : w.cell? ⟨b1, o1 + 4, none⟩ = some (.int .i64 x.Caught)) (p5 : w.cell? ⟨b1, o1 + 5, none⟩ = some (.int .i64 x.Buried)) (q0 : w.cell? ⟨b2, o2, none⟩ = some (.int .i64 y.Day)) (q1 : w.cell? ⟨b2, o2 + 1, none⟩ = some (.string y.Place)) (q2 : w.cell? ⟨b2, o2 + 2, none⟩ = some (.string y.Cause)) (q3 : w.cell? ⟨b2, o2 + 3, none⟩ = some (.int .i64 y.Level)) (q4 : w.cell? ⟨b2, o2 + 4, none⟩ = some (.int .i64 y.Caught)) (q5 : w.cell? ⟨b2, o2 + 5, none⟩ = some (.int .i64 y.Buried)) :
    Calls Try.prog 51 #[.pointer (some ⟨b1, o1, none⟩), .pointer (some ⟨b2, o2, none⟩)] w fun e w' => e = .returned (.bool (ltIncident x y)) ∧ Below w.heap.size w w' := by
  have hb1 := lt_of_cell p0
  have hb2 := lt_of_cell q0
  clear p3 p4 p5 q3 q4 q5
  go_enter Try.func51, Try.ntmps51
  go_wp2_with fail
  cases hd : (x.Day != y.Day)
  · have hd' : x.Day = y.Day := by simpa using hd
    cases hp : (x.Place.toList == y.Place.toList)
    · have hr := lt_2 hd' hp
      have HR := Lib.hid hr
      clear hd' hr
      go_quiet (fail)
      go_wp2_with fail
      go_quiet (fail)
      go_wp2_with fail
      go_quiet (fail)
      go_wp2_with fail
      go_ret
      exact ⟨ret_bool HR.out.symm, (by repeat (first | (with_reducible assumption) | (with_reducible exact Below.refl _ _) | (with_reducible refine Bel.alloc ?_ _) | (with_reducible refine Below.drew ?_) | (with_reducible refine Bel.drewN ?_ _) | (with_reducible refine Bel.setCell ?_ (by (try simp) <;> omega) _) | (with_reducible refine Bel.trans ?_ (by assumption))))⟩
    · have hr := lt_3 hd' hp
      have HR := Lib.hid hr
      clear hd' hr
      go_quiet (fail)
      go_wp2_with fail
      go_quiet (fail)
      go_wp2_with fail
      go_quiet (fail)
      go_wp2_with fail
      go_ret
      exact ⟨ret_bool HR.out.symm, (by repeat (first | (with_reducible assumption) | (with_reducible exact Below.refl _ _) | (with_reducible refine Bel.alloc ?_ _) | (with_reducible refine Below.drew ?_) | (with_reducible refine Bel.drewN ?_ _) | (with_reducible refine Bel.setCell ?_ (by (try simp) <;> omega) _) | (with_reducible refine Bel.trans ?_ (by assumption))))⟩
  · have hr := lt_1 (x := x) (y := y) (by simpa using hd)
    have HR := Lib.hid hr
    clear hr
    go_quiet (fail)
    go_wp2_with fail
    go_quiet (fail)
    go_wp2_with fail
    go_ret
    exact ⟨ret_bool HR.out.symm, (by repeat (first | (with_reducible assumption) | (with_reducible exact Below.refl _ _) | (with_reducible refine Bel.alloc ?_ _) | (with_reducible refine Below.drew ?_) | (with_reducible refine Bel.drewN ?_ _) | (with_reducible refine Bel.setCell ?_ (by (try simp) <;> omega) _) | (with_reducible refine Bel.trans ?_ (by assumption))))⟩
end Go.Proofs.Ytabhojeikhfcfaa
