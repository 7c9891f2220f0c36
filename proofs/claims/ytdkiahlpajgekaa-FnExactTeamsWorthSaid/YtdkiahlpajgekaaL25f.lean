/- Chapter 25: the chance that a victim is found up to a minute. -/
import Derived.Test.YtdkiahlpajgekaaL25
import Derived.Test.YtdkiahlpajgekaaLst
import Derived.Test.YtdkiahlpajgekaaIdxI
namespace Go.Proofs.Ytdkiahlpajgekaa
set_option linter.unusedSimpArgs false
set_option linter.unusedVariables false
open Go.RowKit
set_option maxHeartbeats 400000
set_option maxRecDepth 100000
def okAreas (xs : List SArea) : Bool := vlArea xs && decide (sumR (fdAreaChance xs) xs.length ≤ 1000)
def atOrd (n : Nat) (os : List Int) (k : Nat) : Bool := if h : k < os.length then inr 0 ((n : Int) - 1) os[k] && !hasIn (os.take k) os[k] else false
def ordOk (n : Nat) (os : List Int) : Bool := (List.range os.length).all (atOrd n os)
theorem atOrd_1 {n : Nat} {os : List Int} {k : Nat} (hk : k < os.length) (h : inr 0 ((n : Int) - 1) os[k] = false) : atOrd n os k = false := by rw [atOrd, dif_pos hk, h]; rfl
theorem atOrd_2 {n : Nat} {os : List Int} {k : Nat} (hk : k < os.length) (h : hasIn (os.take k) os[k] = true) : atOrd n os k = false := by rw [atOrd, dif_pos hk, h]; simp
theorem atOrd_0 {n : Nat} {os : List Int} {k : Nat} (hk : k < os.length) (h : inr 0 ((n : Int) - 1) os[k] = true) (h2 : hasIn (os.take k) os[k] = false) : atOrd n os k = true := by rw [atOrd, dif_pos hk, h, h2]; rfl
theorem ordOk_no {n : Nat} {os : List Int} {k : Nat} (hk : k < os.length) (h : atOrd n os k = false) : ordOk n os = false := all_range_no hk h
theorem ordOk_at {n : Nat} {os : List Int} (h : ordOk n os = true) {k : Nat} (hk : k < os.length) : ∃ i : Nat, i < n ∧ os[k] = (i : Int) := by
  unfold ordOk at h
  rw [List.all_eq_true] at h
  have h1 := h k (List.mem_range.2 hk)
  rw [atOrd, dif_pos hk, Bool.and_eq_true] at h1
  obtain ⟨h2, h3⟩ := inr_bd' h1.1
  exact ⟨os[k].toNat, by omega, by omega⟩
theorem okAreas_vl {xs : List SArea} (h : okAreas xs = true) : vlArea xs = true := by rw [okAreas, Bool.and_eq_true] at h; exact h.1
def facode (xs : List SArea) (os : List Int) (s m : Int) : Int := if okAreas xs then (if inr 0 1000 s && inr 0 1000 m then (if ordOk xs.length os then 0 else 7) else 2) else 1
theorem facode_1 {xs : List SArea} {os : List Int} {s m : Int} (h : okAreas xs = false) : facode xs os s m = 1 := by rw [facode, if_neg (by rw [h]; simp)]
theorem facode_2 {xs : List SArea} {os : List Int} {s m : Int} (h : okAreas xs = true) (h2 : (inr 0 1000 s && inr 0 1000 m) = false) : facode xs os s m = 2 := by rw [facode, if_pos h, if_neg (by rw [h2]; simp)]
theorem facode_7 {xs : List SArea} {os : List Int} {s m : Int} (h : okAreas xs = true) (h2 : (inr 0 1000 s && inr 0 1000 m) = true) (h3 : ordOk xs.length os = false) : facode xs os s m = 7 := by rw [facode, if_pos h, if_pos h2, if_neg (by rw [h3]; simp)]
theorem facode_0 {xs : List SArea} {os : List Int} {s m : Int} (h : okAreas xs = true) (h2 : (inr 0 1000 s && inr 0 1000 m) = true) (h3 : ordOk xs.length os = true) : facode xs os s m = 0 := by rw [facode, if_pos h, if_pos h2, if_pos h3]
theorem facode_ok {xs : List SArea} {os : List Int} {s m : Int} (h : facode xs os s m = 0) : okAreas xs = true ∧ inr 0 1000 s = true ∧ inr 0 1000 m = true ∧ ordOk xs.length os = true := by
  cases h1 : okAreas xs
  · rw [facode_1 h1] at h; omega
  · cases h2 : (inr 0 1000 s && inr 0 1000 m)
    · rw [facode_2 h1 h2] at h; omega
    · cases h3 : ordOk xs.length os
      · rw [facode_7 h1 h2 h3] at h; omega
      · rw [Bool.and_eq_true] at h2; exact ⟨rfl, h2.1, h2.2, rfl⟩
def minA (xs : List SArea) (i : Nat) : Int := if h : i < xs.length then xs[i].Minutes else 0
def chA (xs : List SArea) (i : Nat) : Int := if h : i < xs.length then xs[i].Chance else 0
theorem minA_at {xs : List SArea} {i : Nat} (h : i < xs.length) : minA xs i = xs[i].Minutes := by rw [minA, dif_pos h]
theorem chA_at {xs : List SArea} {i : Nat} (h : i < xs.length) : chA xs i = xs[i].Chance := by rw [chA, dif_pos h]
theorem okArea_bd {x : SArea} (h : okArea x = true) : 0 ≤ x.Chance ∧ x.Chance ≤ 1000 ∧ 1 ≤ x.Minutes ∧ x.Minutes ≤ 600 := by simp [okArea, inr] at h; omega
def fbTo (xs : List SArea) (os : List Int) (s m : Int) : Nat → Int × Int
  | 0 => (s, 0)
  | k + 1 => if h : k < os.length then ((fbTo xs os s m k).1 + minA xs os[k].toNat, if (fbTo xs os s m k).1 + minA xs os[k].toNat ≤ m then (fbTo xs os s m k).2 + chA xs os[k].toNat else (fbTo xs os s m k).2) else fbTo xs os s m k
theorem fbTo_yes {xs : List SArea} {os : List Int} {s m a q : Int} {k i : Nat} (hk : k < os.length) (hi : i < xs.length) (ho : os[k] = (i : Int)) (h : fbTo xs os s m k = (a, q)) (hm : a + xs[i].Minutes ≤ m) : fbTo xs os s m (k + 1) = (a + xs[i].Minutes, q + xs[i].Chance) := by
  rw [fbTo, dif_pos hk, ho, Int.toNat_natCast, h, minA_at hi, chA_at hi, if_pos hm]
theorem fbTo_no {xs : List SArea} {os : List Int} {s m a q : Int} {k i : Nat} (hk : k < os.length) (hi : i < xs.length) (ho : os[k] = (i : Int)) (h : fbTo xs os s m k = (a, q)) (hm : ¬ a + xs[i].Minutes ≤ m) : fbTo xs os s m (k + 1) = (a + xs[i].Minutes, q) := by
  rw [fbTo, dif_pos hk, ho, Int.toNat_natCast, h, minA_at hi, if_neg hm]
def fbRes (xs : List SArea) (os : List Int) (s m : Int) : Int × Int := if facode xs os s m = 0 then ((fbTo xs os s m os.length).2, 0) else (0, facode xs os s m)
theorem fbRes_c {xs : List SArea} {os : List Int} {s m c : Int} (h : facode xs os s m = c) (hc : c ≠ 0) : fbRes xs os s m = (0, c) := by rw [fbRes, h, if_neg hc]
theorem fbRes_0 {xs : List SArea} {os : List Int} {s m a q : Int} (h : facode xs os s m = 0) (hq : fbTo xs os s m os.length = (a, q)) : fbRes xs os s m = (q, 0) := by rw [fbRes, if_pos h, hq]
theorem indexValidA_any (A : Option Addr) (n c : Nat) (k : Int) (w : World) (hn : n ≤ 1048576) : Calls Try.prog 29 #[.slice A n c, .int .i64 k] w fun e w' => e = .returned (.bool (inr 0 ((n : Int) - 1) k)) ∧ w = w' := by
  go_enter Try.func29, Try.ntmps29
  go_wp2_with (go_at_call 33; refine (within_any _ _ _ _).mono ?_; rintro e w' ⟨rfl, rfl⟩)
  go_ret
  exact ⟨rfl, rfl⟩
theorem lateOk_any (n : Int) (w : World) : Calls Try.prog 24 #[.int .i64 n] w fun e w' => e = .returned (.bool (inr 0 1000 n)) ∧ w = w' := by
  go_enter Try.func24, Try.ntmps24
  go_wp2_with (go_at_call 33; refine (within_any _ _ _ _).mono ?_; rintro e w' ⟨rfl, rfl⟩)
  go_ret
  exact ⟨rfl, rfl⟩
theorem l25Late_any (n : Int) (w : World) : Calls Try.prog 16 #[.int .i64 n] w fun e w' => e = .returned (.bool (inr 0 1000 n)) ∧ w = w' := by
  go_enter Try.func16, Try.ntmps16
  go_wp2_with (go_at_call 21; refine (l00In_any _ _ _ _).mono ?_; rintro e w' ⟨rfl, rfl⟩)
  go_ret
  exact ⟨rfl, rfl⟩
theorem arr2 {w : World} {g : Nat} {a b : Int} {t : TypeId} (B : Box t w g #[.int .i64 a, .int .i64 b]) : Arr intc 1 w g [a, b] := by
  refine ⟨B.lt, fun i hi j v hv => ?_⟩
  have hi2 : i = 0 ∨ i = 1 := by simp at hi; omega
  have hj : j = 0 := by
    have : j < 1 := by have := (List.getElem?_eq_some_iff.1 hv).1; simpa [intc] using this
    omega
  subst hj
  rcases hi2 with rfl | rfl
  · rw [B.cell]; simpa [intc] using hv
  · rw [B.cell]; simpa [intc] using hv
theorem allIn2 {lo hi a b : Int} : allIn lo hi [a, b] = (inr lo hi a && inr lo hi b) := by simp [allIn]
theorem areasCode_any (xs : List SArea) (os : List Int) (b c b2 c2 g c3 : Nat) (s m : Int) (w : World) (A : Arr SArea.cells 3 w b xs) (A2 : Arr intc 1 w b2 os) (A3 : Arr intc 1 w g [s, m]) (hn : xs.length ≤ 1048576) (hn2 : os.length ≤ 1048576) (hc2 : os.length ≤ c2) (hf : ∀ i (h : i < xs.length), xs[i].Id.size ≤ 9223372036854775807) :
    Calls Try.prog 19 #[.slice (some ⟨b, 0, none⟩) xs.length c, .slice (some ⟨b2, 0, none⟩) os.length c2, .slice (some ⟨g, 0, none⟩) 2 c3] w fun e w' => e = .returned (.int .i64 (facode xs os s m)) ∧ Below w.heap.size w w' := by
  have HA := Lib.hid A
  have HA2 := Lib.hid A2
  have HA3 := Lib.hid A3
  have HF := Lib.hid hf
  clear A A2 A3 hf
  have HVA := Lib.hid (fun w A => ValidAreas_any xs b c w A hn HF.out)
  rw [show (vlArea xs && decide (sumR (fdAreaChance xs) xs.length ≤ 1000)) = okAreas xs from rfl] at HVA
  obtain ⟨aw, haw⟩ : ∃ aw, (inr 0 1000 s && inr 0 1000 m) = aw := ⟨_, rfl⟩
  have HAW := Lib.hid haw
  clear haw
  go_enter Try.func19, Try.ntmps19
  go_wp2_with (first | (go_at_call 23; refine (HVA.out _ HA.out).mono ?_; rintro e w1 ⟨rfl, hb1⟩) | (go_at_call 25; refine (allWithin_any [s, m] g c3 0 1000 _ (HA3.out.below hb1) (by simp)).mono ?_; rw [allIn2, HAW.out]; rintro e w2 ⟨rfl, hb2⟩))
  · go_ret
    exact ⟨ret_int (facode_1 (by first | assumption | exact not_f (by assumption) | exact not_t (by assumption))).symm, hb1⟩
  · go_ret
    exact ⟨ret_int (facode_2 (by first | assumption | exact not_f (by assumption) | exact not_t (by assumption)) (HAW.out.trans (by first | assumption | exact not_f (by assumption) | exact not_t (by assumption)))).symm, Bel.trans hb1 hb2⟩
  have hv : okAreas xs = true := (by first | assumption | exact not_f (by assumption) | exact not_t (by assumption))
  have ha : aw = true := (by first | assumption | exact not_f (by assumption) | exact not_t (by assumption))
  simp only [hv, ha, Bool.not_true]
  have HV := Lib.hid hv
  have HW := Lib.hid (HAW.out.trans ha)
  have hb2 := Bel.trans hb1 hb2
  clear hv ha
  go_loopw [19] (fun i wr => ∃ k : Nat, k ≤ os.length ∧ i = .int .i64 k ∧ (List.range k).all (atOrd xs.length os) = true ∧ Below w.heap.size w wr) (fun i wr => os.length - (intOf i).toNat)
  case atStart => exact ⟨0, by omega, rfl, rfl, hb2⟩
  case round =>
    obtain ⟨k, hk, rfl, hall, hbel⟩ := hrel
    have HL := Lib.hid hall
    clear hall
    by_cases hlt : k < os.length
    · have c0 := (HA2.out.below hbel).get hlt 0 k rfl (by omega)
      have hlk : (os.take k).length = k := by rw [List.length_take]; omega
      have HT := Lib.hid ((HA2.out.below hbel).take k)
      have HLK := Lib.hid hlk
      clear hlk
      cases hq : inr 0 ((xs.length : Int) - 1) os[k]
      · have HQ := Lib.hid hq
        have HNO := Lib.hid (ordOk_no hlt (atOrd_1 hlt hq))
        clear hq
        go_wp2_with (go_at_call 29; refine (Calls.boolIs HQ.out (indexValidA_any _ _ _ _ _ hn)).mono ?_; rintro e w' ⟨rfl, rfl⟩)
        go_ret
        exact ⟨ret_int (facode_7 HV.out HW.out HNO.out).symm, hbel⟩
      · cases hh : hasIn (os.take k) os[k]
        · have HQ := Lib.hid hq
          have HH := Lib.hid hh
          have HNO := Lib.hid (atOrd_0 hlt hq hh)
          clear hq hh
          go_wp2_with (first | (go_at_call 29; refine (Calls.boolIs HQ.out (indexValidA_any _ _ _ _ _ hn)).mono ?_; rintro e w' ⟨rfl, rfl⟩) | (go_at_call 30; refine (Calls.boolIs HH.out (containsI_any (os.take k) b2 _ k os[k] _ HT.out HLK.out (by omega))).mono ?_; rintro e w' ⟨rfl, rfl⟩))
          go_roundw
          case rel => exact ⟨k + 1, by omega, by go_num, all_range_snoc HL.out HNO.out, hbel⟩
          case measure => simp [intOf]; omega
        · have HQ := Lib.hid hq
          have HH := Lib.hid hh
          have HNO := Lib.hid (ordOk_no hlt (atOrd_2 (n := xs.length) hlt hh))
          clear hq hh
          go_wp2_with (first | (go_at_call 29; refine (Calls.boolIs HQ.out (indexValidA_any _ _ _ _ _ hn)).mono ?_; rintro e w' ⟨rfl, rfl⟩) | (go_at_call 30; refine (Calls.boolIs HH.out (containsI_any (os.take k) b2 _ k os[k] _ HT.out HLK.out (by omega))).mono ?_; rintro e w' ⟨rfl, rfl⟩))
          go_ret
          exact ⟨ret_int (facode_7 HV.out HW.out HNO.out).symm, hbel⟩
    · obtain rfl : k = os.length := by omega
      go_wp2
      go_ret
      exact ⟨ret_int (facode_0 HV.out HW.out HL.out).symm, hbel⟩
theorem l25Order_any (n : Nat) (os : List Int) (A : Option Addr) (c b2 c2 : Nat) (w : World) (A2 : Arr intc 1 w b2 os) (hn : n ≤ 1048576) (hn2 : os.length ≤ 1048576) (hc2 : os.length ≤ c2) :
    Calls Try.prog 28 #[.slice A n c, .slice (some ⟨b2, 0, none⟩) os.length c2] w fun e w' => e = .returned (.bool (ordOk n os)) ∧ Below w.heap.size w w' := by
  have HA2 := Lib.hid A2
  clear A2
  go_enter Try.func28, Try.ntmps28
  go_wp2_with fail
  go_loopw [5] (fun i wr => ∃ k : Nat, k ≤ os.length ∧ i = .int .i64 k ∧ (List.range k).all (atOrd n os) = true ∧ Below w.heap.size w wr) (fun i wr => os.length - (intOf i).toNat)
  case atStart => exact ⟨0, by omega, rfl, rfl, Below.refl _ _⟩
  case round =>
    obtain ⟨k, hk, rfl, hall, hbel⟩ := hrel
    have HL := Lib.hid hall
    clear hall
    by_cases hlt : k < os.length
    · have hA1 := HA2.out.below hbel
      have q0 := Past.cell (hA1.get hlt 0 k rfl (by omega)) hA1.1
      have hlk : (os.take k).length = k := by rw [List.length_take]; omega
      have HT := Lib.hid (hA1.take k)
      have HLK := Lib.hid hlk
      have hsw := IntWalk.i64_in ((n : Int) - 1) (by omega)
      clear hlk hA1
      cases hq : inr 0 ((n : Int) - 1) os[k]
      · have HQ := Lib.hid hq
        have HNO := Lib.hid (ordOk_no hlt (atOrd_1 hlt hq))
        clear hq
        go_wp2_with fail
        refine wp_region_past (by kernel_rfl) (by kernel_rfl) ?_
        repeat (go_big_quiet_step ((go_at_call 21; exact Past.sameB _ HQ.out (l00In_any _ _ _ _))))
        refine wpQuiet_nil ?_
        intro W1 hw'
        obtain ⟨⟨W_, hb1⟩, hw''⟩ := hw'
        subst hw''
        try clear hsw
        clear q0
        go_wp2
        go_ret
        exact ⟨ret_bool HNO.out.symm, Bel.trans hbel hb1⟩
      · cases hh : hasIn (os.take k) os[k]
        · have HQ := Lib.hid hq
          have HH := Lib.hid hh
          have HNO := Lib.hid (atOrd_0 hlt hq hh)
          clear hq hh
          go_wp2_with fail
          refine wp_region_past (by kernel_rfl) (by kernel_rfl) ?_
          repeat (go_big_quiet_step ((first | (go_at_call 21; exact Past.sameB _ HQ.out (l00In_any _ _ _ _)) | (go_at_call 38; exact Past.sameB _ HH.out (l00Has_any (os.take k) b2 _ k os[k] _ (HT.out.below (Past.h _)) HLK.out (by omega))))))
          refine wpQuiet_nil ?_
          intro W1 hw'
          obtain ⟨⟨W_, hb1⟩, hw''⟩ := hw'
          subst hw''
          try clear hsw
          clear q0
          go_wp2
          go_roundw
          case rel => exact ⟨k + 1, by omega, by go_num, all_range_snoc HL.out HNO.out, Bel.trans hbel hb1⟩
          case measure => simp [intOf]; omega
        · have HQ := Lib.hid hq
          have HH := Lib.hid hh
          have HNO := Lib.hid (ordOk_no hlt (atOrd_2 (n := n) hlt hh))
          clear hq hh
          go_wp2_with fail
          refine wp_region_past (by kernel_rfl) (by kernel_rfl) ?_
          repeat (go_big_quiet_step ((first | (go_at_call 21; exact Past.sameB _ HQ.out (l00In_any _ _ _ _)) | (go_at_call 38; exact Past.sameB _ HH.out (l00Has_any (os.take k) b2 _ k os[k] _ (HT.out.below (Past.h _)) HLK.out (by omega))))))
          refine wpQuiet_nil ?_
          intro W1 hw'
          obtain ⟨⟨W_, hb1⟩, hw''⟩ := hw'
          subst hw''
          try clear hsw
          clear q0
          go_wp2
          go_ret
          exact ⟨ret_bool HNO.out.symm, Bel.trans hbel hb1⟩
    · obtain rfl : k = os.length := by omega
      go_wp2
      go_ret
      exact ⟨ret_bool HL.out.symm, hbel⟩
end Go.Proofs.Ytdkiahlpajgekaa
