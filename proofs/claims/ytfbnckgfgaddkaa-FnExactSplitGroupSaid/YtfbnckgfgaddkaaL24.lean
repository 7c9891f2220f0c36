/- Chapter 24: groups. -/
import Derived.Test.YtfbnckgfgaddkaaNam
import Derived.Test.YtfbnckgfgaddkaaAllW
namespace Go.Proofs.Ytfbnckgfgaddkaa
set_option linter.unusedSimpArgs false
set_option linter.unusedVariables false
open Go.RowKit
set_option maxHeartbeats 400000
def okGroup (x : SGroup) : Bool := isName x.Id && inr 1 30 x.People && inr 0 x.People x.Guides && (inr 0 30 x.Beacons && inr 0 30 x.Shovels && inr 0 30 x.Probes) && inr 1 5 x.Skill
def atGroup (xs : List SGroup) (i : Nat) : Bool := if h : i < xs.length then okGroup xs[i] && (decide (i = 0) || !strLe (xs[i]).Id (xs[i-1]).Id) else false
def vlGroup (xs : List SGroup) : Bool := (List.range xs.length).all (atGroup xs) && decide (xs.length ≤ 8)
theorem vlGroup_no {xs : List SGroup} {k : Nat} (hk : k < xs.length) (h : atGroup xs k = false) : vlGroup xs = false := by unfold vlGroup; rw [all_range_no hk h, Bool.false_and]
theorem atGroup_bad {xs : List SGroup} {k : Nat} (hk : k < xs.length) (hv : okGroup xs[k] = false) : atGroup xs k = false := by simp [atGroup, hk, hv]
theorem atGroup_0 {xs : List SGroup} {k : Nat} (hk : k < xs.length) (hv : okGroup xs[k] = true) (h0 : k = 0) : atGroup xs k = true := by subst h0; simp [atGroup, hk, hv]
theorem atGroup_ok {xs : List SGroup} {k : Nat} (hk : k < xs.length) (hv : okGroup xs[k] = true) (hc : strLe (xs[k]).Id (xs[k-1]).Id = false) : atGroup xs k = true := by rw [atGroup, dif_pos hk, hv, hc, Bool.true_and, Bool.not_false, Bool.or_true]
theorem atGroup_no {xs : List SGroup} {k : Nat} (hk : k < xs.length) (h0 : 0 < k) (hc : strLe (xs[k]).Id (xs[k-1]).Id = true) : atGroup xs k = false := by rw [atGroup, dif_pos hk, hc, decide_eq_false (show ¬ k = 0 by omega), Bool.not_true, Bool.or_false, Bool.and_false]
theorem vlGroup_len {xs : List SGroup} (h : vlGroup xs = true) : xs.length ≤ 8 := by simp only [vlGroup, Bool.and_eq_true, decide_eq_true_eq] at h; exact h.2
theorem vlGroup_ok {xs : List SGroup} (h : vlGroup xs = true) : ∀ k (hk : k < xs.length), okGroup xs[k] = true := fun k hk => by
  simp only [vlGroup, Bool.and_eq_true, List.all_eq_true, List.mem_range] at h; have := h.1 k hk; simp only [atGroup, hk, dite_true, Bool.and_eq_true] at this; exact this.1
theorem okGroup_bd {x : SGroup} (h : okGroup x = true) : 1 ≤ x.People ∧ x.People ≤ 30 ∧ 0 ≤ x.Guides ∧ x.Guides ≤ x.People ∧ 0 ≤ x.Beacons ∧ x.Beacons ≤ 30 ∧ 0 ≤ x.Shovels ∧ x.Shovels ≤ 30 ∧ 0 ≤ x.Probes ∧ x.Probes ≤ 30 ∧ 1 ≤ x.Skill ∧ x.Skill ≤ 5 := by
  simp [okGroup, inr] at h; omega
theorem three_in (lo hi a b c : Int) : allIn lo hi [a, b, c] = (inr lo hi a && inr lo hi b && inr lo hi c) := by simp [allIn, Bool.and_assoc]
theorem allWithin3_any (a b c lo hi : Int) (g cap : Nat) (w : World) {t : TypeId} (B : Box t w g #[.int .i64 a, .int .i64 b, .int .i64 c]) :
    Calls Try.prog 40 #[.slice (some ⟨g, 0, none⟩) 3 cap, .int .i64 lo, .int .i64 hi] w fun e w' => e = .returned (.bool (inr lo hi a && inr lo hi b && inr lo hi c)) ∧ Below w.heap.size w w' := by
  rw [← three_in]
  refine allWithin_any [a, b, c] g cap lo hi w ⟨B.lt, fun i hi j v hv => ?_⟩ (by simp)
  rw [B.cell]
  simp only [List.length_cons, List.length_nil] at hi
  have hj : j = 0 := by
    have := (List.getElem?_eq_some_iff.1 hv).1
    simp [intc] at this; exact this
  subst hj
  rcases (show i = 0 ∨ i = 1 ∨ i = 2 by omega) with rfl | rfl | rfl <;> simpa [intc] using hv
theorem validGroup_any (x : SGroup) (w : World) (hs : x.Id.size ≤ 9223372036854775807) : Calls Try.prog 27 #[.agg #[.string x.Id, .int .i64 x.People, .int .i64 x.Guides, .int .i64 x.Beacons, .int .i64 x.Shovels, .int .i64 x.Probes, .int .i64 x.Skill]] w fun e w' => e = .returned (.bool (okGroup x)) ∧ Below w.heap.size w w' := by
  go_enter Try.func27, Try.ntmps27
  go_wp2_with (first | (go_at_call 39; refine (IsName_any _ _ hs).mono ?_; rintro e w' ⟨rfl, rfl⟩) | (go_at_call 20; refine (within_any _ _ _ _).mono ?_; rintro e w' ⟨rfl, rfl⟩) | (go_at_call 40; refine calls_box_out2 ?_; intro W hbw B1 B2; refine (allWithin3_any x.Beacons x.Shovels x.Probes 0 30 _ _ _ B2).mono ?_; rintro e w1 ⟨rfl, hb1⟩; have c6 : w1.cell? ⟨w.heap.size, 6, none⟩ = some (.int .i64 x.Skill) := (B1.below hb1).cell 6; have hbt := Bel.trans hbw hb1))
  all_goals
    go_ret
    exact ⟨ret_bool (by simp [okGroup, *]), (by repeat (first | (with_reducible assumption) | (with_reducible exact Below.refl _ _) | (with_reducible refine Bel.alloc ?_ _) | (with_reducible refine Below.drew ?_) | (with_reducible refine Bel.drewN ?_ _) | (with_reducible refine Bel.setCell ?_ (by (try simp) <;> omega) _) | (with_reducible refine Bel.trans ?_ (by assumption))))⟩
theorem l24One_any (x : SGroup) (b o : Nat) (w : World) (p0 : w.cell? ⟨b, o, none⟩ = some (.string x.Id)) (p1 : w.cell? ⟨b, o + 1, none⟩ = some (.int .i64 x.People)) (p2 : w.cell? ⟨b, o + 2, none⟩ = some (.int .i64 x.Guides)) (p3 : w.cell? ⟨b, o + 3, none⟩ = some (.int .i64 x.Beacons)) (p4 : w.cell? ⟨b, o + 4, none⟩ = some (.int .i64 x.Shovels)) (p5 : w.cell? ⟨b, o + 5, none⟩ = some (.int .i64 x.Probes)) (p6 : w.cell? ⟨b, o + 6, none⟩ = some (.int .i64 x.Skill)) (hs : x.Id.size ≤ 9223372036854775807) :
    Calls Try.prog 24 #[.pointer (some ⟨b, o, none⟩)] w fun e w' => e = .returned (.bool (okGroup x)) ∧ Below w.heap.size w w' := by
  have hl := lt_of_cell p0
  go_enter Try.func24, Try.ntmps24
  go_wp2_with fail
  have q0 := Past.cell p0 hl
  have q1 := Past.cell p1 hl
  have q2 := Past.cell p2 hl
  have q3 := Past.cell p3 hl
  have q4 := Past.cell p4 hl
  have q5 := Past.cell p5 hl
  have q6 := Past.cell p6 hl
  clear p0 p1 p2 p3 p4 p5 p6
  cases h0 : isName x.Id
  · have H0 := Lib.hid h0
    clear h0
    refine wp_region_past (by kernel_rfl) (by kernel_rfl) ?_
    repeat (go_big_quiet_step ((first | (go_at_call 38; exact Past.sameB _ H0.out (l01Name_any _ _ hs)) | (go_at_call 25; first | (with_reducible exact Past.sameB _ H1.out (l00In_any x.People 1 30 _)) | (with_reducible exact Past.sameB _ H2.out (l00In_any x.Guides 0 x.People _)) | (with_reducible exact Past.sameB _ H3.out (l00In_any x.Beacons 0 30 _)) | (with_reducible exact Past.sameB _ H4.out (l00In_any x.Shovels 0 30 _)) | (with_reducible exact Past.sameB _ H5.out (l00In_any x.Probes 0 30 _)) | (with_reducible exact Past.sameB _ H6.out (l00In_any x.Skill 1 5 _))))))
    refine wpQuiet_nil ?_
    intro W1 hw'
    obtain ⟨⟨W_, hb1⟩, hw''⟩ := hw'
    subst hw''
    go_wp2
    go_ret
    exact ⟨ret_bool (by simp [okGroup, H0.out]), hb1⟩
  · have H0 := Lib.hid h0
    clear h0
    cases h1 : inr 1 30 x.People
    · have H1 := Lib.hid h1
      clear h1
      refine wp_region_past (by kernel_rfl) (by kernel_rfl) ?_
      repeat (go_big_quiet_step ((first | (go_at_call 38; exact Past.sameB _ H0.out (l01Name_any _ _ hs)) | (go_at_call 25; first | (with_reducible exact Past.sameB _ H1.out (l00In_any x.People 1 30 _)) | (with_reducible exact Past.sameB _ H2.out (l00In_any x.Guides 0 x.People _)) | (with_reducible exact Past.sameB _ H3.out (l00In_any x.Beacons 0 30 _)) | (with_reducible exact Past.sameB _ H4.out (l00In_any x.Shovels 0 30 _)) | (with_reducible exact Past.sameB _ H5.out (l00In_any x.Probes 0 30 _)) | (with_reducible exact Past.sameB _ H6.out (l00In_any x.Skill 1 5 _))))))
      refine wpQuiet_nil ?_
      intro W1 hw'
      obtain ⟨⟨W_, hb1⟩, hw''⟩ := hw'
      subst hw''
      go_wp2
      go_ret
      exact ⟨ret_bool (by simp [okGroup, H0.out, H1.out]), hb1⟩
    · have H1 := Lib.hid h1
      clear h1
      cases h2 : inr 0 x.People x.Guides
      · have H2 := Lib.hid h2
        clear h2
        refine wp_region_past (by kernel_rfl) (by kernel_rfl) ?_
        repeat (go_big_quiet_step ((first | (go_at_call 38; exact Past.sameB _ H0.out (l01Name_any _ _ hs)) | (go_at_call 25; first | (with_reducible exact Past.sameB _ H1.out (l00In_any x.People 1 30 _)) | (with_reducible exact Past.sameB _ H2.out (l00In_any x.Guides 0 x.People _)) | (with_reducible exact Past.sameB _ H3.out (l00In_any x.Beacons 0 30 _)) | (with_reducible exact Past.sameB _ H4.out (l00In_any x.Shovels 0 30 _)) | (with_reducible exact Past.sameB _ H5.out (l00In_any x.Probes 0 30 _)) | (with_reducible exact Past.sameB _ H6.out (l00In_any x.Skill 1 5 _))))))
        refine wpQuiet_nil ?_
        intro W1 hw'
        obtain ⟨⟨W_, hb1⟩, hw''⟩ := hw'
        subst hw''
        go_wp2
        go_ret
        exact ⟨ret_bool (by simp [okGroup, H0.out, H1.out, H2.out]), hb1⟩
      · have H2 := Lib.hid h2
        clear h2
        cases h3 : inr 0 30 x.Beacons
        · have H3 := Lib.hid h3
          clear h3
          refine wp_region_past (by kernel_rfl) (by kernel_rfl) ?_
          repeat (go_big_quiet_step ((first | (go_at_call 38; exact Past.sameB _ H0.out (l01Name_any _ _ hs)) | (go_at_call 25; first | (with_reducible exact Past.sameB _ H1.out (l00In_any x.People 1 30 _)) | (with_reducible exact Past.sameB _ H2.out (l00In_any x.Guides 0 x.People _)) | (with_reducible exact Past.sameB _ H3.out (l00In_any x.Beacons 0 30 _)) | (with_reducible exact Past.sameB _ H4.out (l00In_any x.Shovels 0 30 _)) | (with_reducible exact Past.sameB _ H5.out (l00In_any x.Probes 0 30 _)) | (with_reducible exact Past.sameB _ H6.out (l00In_any x.Skill 1 5 _))))))
          refine wpQuiet_nil ?_
          intro W1 hw'
          obtain ⟨⟨W_, hb1⟩, hw''⟩ := hw'
          subst hw''
          go_wp2
          go_ret
          exact ⟨ret_bool (by simp [okGroup, H0.out, H1.out, H2.out, H3.out]), hb1⟩
        · have H3 := Lib.hid h3
          clear h3
          cases h4 : inr 0 30 x.Shovels
          · have H4 := Lib.hid h4
            clear h4
            refine wp_region_past (by kernel_rfl) (by kernel_rfl) ?_
            repeat (go_big_quiet_step ((first | (go_at_call 38; exact Past.sameB _ H0.out (l01Name_any _ _ hs)) | (go_at_call 25; first | (with_reducible exact Past.sameB _ H1.out (l00In_any x.People 1 30 _)) | (with_reducible exact Past.sameB _ H2.out (l00In_any x.Guides 0 x.People _)) | (with_reducible exact Past.sameB _ H3.out (l00In_any x.Beacons 0 30 _)) | (with_reducible exact Past.sameB _ H4.out (l00In_any x.Shovels 0 30 _)) | (with_reducible exact Past.sameB _ H5.out (l00In_any x.Probes 0 30 _)) | (with_reducible exact Past.sameB _ H6.out (l00In_any x.Skill 1 5 _))))))
            refine wpQuiet_nil ?_
            intro W1 hw'
            obtain ⟨⟨W_, hb1⟩, hw''⟩ := hw'
            subst hw''
            go_wp2
            go_ret
            exact ⟨ret_bool (by simp [okGroup, H0.out, H1.out, H2.out, H3.out, H4.out]), hb1⟩
          · have H4 := Lib.hid h4
            clear h4
            cases h5 : inr 0 30 x.Probes
            · have H5 := Lib.hid h5
              clear h5
              refine wp_region_past (by kernel_rfl) (by kernel_rfl) ?_
              repeat (go_big_quiet_step ((first | (go_at_call 38; exact Past.sameB _ H0.out (l01Name_any _ _ hs)) | (go_at_call 25; first | (with_reducible exact Past.sameB _ H1.out (l00In_any x.People 1 30 _)) | (with_reducible exact Past.sameB _ H2.out (l00In_any x.Guides 0 x.People _)) | (with_reducible exact Past.sameB _ H3.out (l00In_any x.Beacons 0 30 _)) | (with_reducible exact Past.sameB _ H4.out (l00In_any x.Shovels 0 30 _)) | (with_reducible exact Past.sameB _ H5.out (l00In_any x.Probes 0 30 _)) | (with_reducible exact Past.sameB _ H6.out (l00In_any x.Skill 1 5 _))))))
              refine wpQuiet_nil ?_
              intro W1 hw'
              obtain ⟨⟨W_, hb1⟩, hw''⟩ := hw'
              subst hw''
              go_wp2
              go_ret
              exact ⟨ret_bool (by simp [okGroup, H0.out, H1.out, H2.out, H3.out, H4.out, H5.out]), hb1⟩
            · have H5 := Lib.hid h5
              clear h5
              cases h6 : inr 1 5 x.Skill
              · have H6 := Lib.hid h6
                clear h6
                refine wp_region_past (by kernel_rfl) (by kernel_rfl) ?_
                repeat (go_big_quiet_step ((first | (go_at_call 38; exact Past.sameB _ H0.out (l01Name_any _ _ hs)) | (go_at_call 25; first | (with_reducible exact Past.sameB _ H1.out (l00In_any x.People 1 30 _)) | (with_reducible exact Past.sameB _ H2.out (l00In_any x.Guides 0 x.People _)) | (with_reducible exact Past.sameB _ H3.out (l00In_any x.Beacons 0 30 _)) | (with_reducible exact Past.sameB _ H4.out (l00In_any x.Shovels 0 30 _)) | (with_reducible exact Past.sameB _ H5.out (l00In_any x.Probes 0 30 _)) | (with_reducible exact Past.sameB _ H6.out (l00In_any x.Skill 1 5 _))))))
                refine wpQuiet_nil ?_
                intro W1 hw'
                obtain ⟨⟨W_, hb1⟩, hw''⟩ := hw'
                subst hw''
                go_wp2
                go_ret
                exact ⟨ret_bool (by simp [okGroup, H0.out, H1.out, H2.out, H3.out, H4.out, H5.out, H6.out]), hb1⟩
              · have H6 := Lib.hid h6
                clear h6
                refine wp_region_past (by kernel_rfl) (by kernel_rfl) ?_
                repeat (go_big_quiet_step ((first | (go_at_call 38; exact Past.sameB _ H0.out (l01Name_any _ _ hs)) | (go_at_call 25; first | (with_reducible exact Past.sameB _ H1.out (l00In_any x.People 1 30 _)) | (with_reducible exact Past.sameB _ H2.out (l00In_any x.Guides 0 x.People _)) | (with_reducible exact Past.sameB _ H3.out (l00In_any x.Beacons 0 30 _)) | (with_reducible exact Past.sameB _ H4.out (l00In_any x.Shovels 0 30 _)) | (with_reducible exact Past.sameB _ H5.out (l00In_any x.Probes 0 30 _)) | (with_reducible exact Past.sameB _ H6.out (l00In_any x.Skill 1 5 _))))))
                refine wpQuiet_nil ?_
                intro W1 hw'
                obtain ⟨⟨W_, hb1⟩, hw''⟩ := hw'
                subst hw''
                go_wp2
                go_ret
                exact ⟨ret_bool (by simp [okGroup, H0.out, H1.out, H2.out, H3.out, H4.out, H5.out, H6.out]), hb1⟩
end Go.Proofs.Ytfbnckgfgaddkaa
