/- Chapter 22: orders of shots, their gain: the walks. -/
import Derived.Test.YtocipeididkllaaL22
import Derived.Test.YtocipeididkllaaIdxI
namespace Go.Proofs.Ytocipeididkllaa
set_option linter.unusedSimpArgs false
set_option linter.unusedVariables false
open Go.RowKit
set_option maxHeartbeats 400000
set_option maxRecDepth 100000
def atOrd (n : Nat) (os : List Int) (k : Nat) : Bool := if h : k < os.length then inr 0 ((n : Int) - 1) os[k] && !hasIn (os.take k) os[k] else false
def ordOk (n : Nat) (os : List Int) : Bool := (List.range os.length).all (atOrd n os)
theorem atOrd_1 {n : Nat} {os : List Int} {k : Nat} (hk : k < os.length) (h : inr 0 ((n : Int) - 1) os[k] = false) : atOrd n os k = false := by rw [atOrd, dif_pos hk, h]; rfl
theorem atOrd_2 {n : Nat} {os : List Int} {k : Nat} (hk : k < os.length) (h : hasIn (os.take k) os[k] = true) : atOrd n os k = false := by rw [atOrd, dif_pos hk, h]; simp
theorem atOrd_0 {n : Nat} {os : List Int} {k : Nat} (hk : k < os.length) (h : inr 0 ((n : Int) - 1) os[k] = true) (h2 : hasIn (os.take k) os[k] = false) : atOrd n os k = true := by rw [atOrd, dif_pos hk, h, h2]; rfl
theorem ordOk_no {n : Nat} {os : List Int} {k : Nat} (hk : k < os.length) (h : atOrd n os k = false) : ordOk n os = false := all_range_no hk h
theorem ordOk_at {n : Nat} {os : List Int} (h : ordOk n os = true) {k : Nat} (hk : k < os.length) : ∃ i : Nat, i < n ∧ os[k] = (i : Int) := by
  unfold ordOk at h
  rw [List.all_eq_true] at h
  have h1 := h k (List.mem_range.2 hk)
  rw [atOrd, dif_pos hk, Bool.and_eq_true] at h1
  obtain ⟨h2, h3⟩ := inr_bd' h1.1
  exact ⟨os[k].toNat, by omega, by omega⟩
theorem indexValidS_any (A : Option Addr) (n c : Nat) (k : Int) (w : World) (hn : n ≤ 1048576) : Calls Try.prog 65 #[.slice A n c, .int .i64 k] w fun e w' => e = .returned (.bool (inr 0 ((n : Int) - 1) k)) ∧ w = w' := by
  go_enter Try.func65, Try.ntmps65
  go_wp2_with (go_at_call 55; refine (within_any _ _ _ _).mono ?_; rintro e w' ⟨rfl, rfl⟩)
  go_ret
  exact ⟨rfl, rfl⟩
theorem orderOk_any (n : Nat) (os : List Int) (A : Option Addr) (c b2 c2 : Nat) (w : World) (A2 : Arr intc 1 w b2 os) (hn : n ≤ 1048576) (hn2 : os.length ≤ 1048576) (hc2 : os.length ≤ c2) :
    Calls Try.prog 41 #[.slice A n c, .slice (some ⟨b2, 0, none⟩) os.length c2] w fun e w' => e = .returned (.bool (ordOk n os)) ∧ Below w.heap.size w w' := by
  have HA2 := Lib.hid A2
  clear A2
  go_enter Try.func41, Try.ntmps41
  go_wp2_with fail
  go_loopw [9] (fun i wr => ∃ k : Nat, k ≤ os.length ∧ i = .int .i64 k ∧ (List.range k).all (atOrd n os) = true ∧ Below w.heap.size w wr) (fun i wr => os.length - (intOf i).toNat)
  case atStart => exact ⟨0, by omega, rfl, rfl, Below.refl _ _⟩
  case round =>
    obtain ⟨k, hk, rfl, hall, hbel⟩ := hrel
    have HL := Lib.hid hall
    clear hall
    by_cases hlt : k < os.length
    · have c0 := (HA2.out.below hbel).get hlt 0 k rfl (by omega)
      have hlk : (os.take k).length = k := by rw [List.length_take]; omega
      have HT := Lib.hid ((HA2.out.below hbel).take k)
      have HLK := Lib.hid hlk
      clear hlk
      cases hq : inr 0 ((n : Int) - 1) os[k]
      · have HQ := Lib.hid hq
        have HNO := Lib.hid (ordOk_no hlt (atOrd_1 hlt hq))
        clear hq
        go_wp2_with (go_at_call 65; refine (Calls.boolIs HQ.out (indexValidS_any _ _ _ _ _ hn)).mono ?_; rintro e w' ⟨rfl, rfl⟩)
        go_ret
        exact ⟨ret_bool HNO.out.symm, hbel⟩
      · cases hh : hasIn (os.take k) os[k]
        · have HQ := Lib.hid hq
          have HH := Lib.hid hh
          have HNO := Lib.hid (atOrd_0 hlt hq hh)
          clear hq hh
          go_wp2_with (first | (go_at_call 65; refine (Calls.boolIs HQ.out (indexValidS_any _ _ _ _ _ hn)).mono ?_; rintro e w' ⟨rfl, rfl⟩) | (go_at_call 66; refine (Calls.boolIs HH.out (containsI_any (os.take k) b2 _ k os[k] _ HT.out HLK.out (by omega))).mono ?_; rintro e w' ⟨rfl, rfl⟩))
          go_roundw
          case rel => exact ⟨k + 1, by omega, by go_num, all_range_snoc HL.out HNO.out, hbel⟩
          case measure => simp [intOf]; omega
        · have HQ := Lib.hid hq
          have HH := Lib.hid hh
          have HNO := Lib.hid (ordOk_no hlt (atOrd_2 (n := n) hlt hh))
          clear hq hh
          go_wp2_with (first | (go_at_call 65; refine (Calls.boolIs HQ.out (indexValidS_any _ _ _ _ _ hn)).mono ?_; rintro e w' ⟨rfl, rfl⟩) | (go_at_call 66; refine (Calls.boolIs HH.out (containsI_any (os.take k) b2 _ k os[k] _ HT.out HLK.out (by omega))).mono ?_; rintro e w' ⟨rfl, rfl⟩))
          go_ret
          exact ⟨ret_bool HNO.out.symm, hbel⟩
    · obtain rfl : k = os.length := by omega
      go_wp2
      go_ret
      exact ⟨ret_bool HL.out.symm, hbel⟩
theorem l22Order_any (n : Nat) (os : List Int) (A : Option Addr) (c b2 c2 : Nat) (w : World) (A2 : Arr intc 1 w b2 os) (hn : n ≤ 1048576) (hn2 : os.length ≤ 1048576) (hc2 : os.length ≤ c2) :
    Calls Try.prog 62 #[.slice A n c, .slice (some ⟨b2, 0, none⟩) os.length c2] w fun e w' => e = .returned (.bool (ordOk n os)) ∧ Below w.heap.size w w' := by
  have HA2 := Lib.hid A2
  clear A2
  go_enter Try.func62, Try.ntmps62
  go_wp2_with fail
  go_loopw [5] (fun i wr => ∃ k : Nat, k ≤ os.length ∧ i = .int .i64 k ∧ (List.range k).all (atOrd n os) = true ∧ Below w.heap.size w wr) (fun i wr => os.length - (intOf i).toNat)
  case atStart => exact ⟨0, by omega, rfl, rfl, Below.refl _ _⟩
  case round =>
    obtain ⟨k, hk, rfl, hall, hbel⟩ := hrel
    have HL := Lib.hid hall
    clear hall
    by_cases hlt : k < os.length
    · have hA1 := HA2.out.below hbel
      have q0 := Past.cell (hA1.get hlt 0 k rfl (by omega)) hA1.1
      have hlk : (os.take k).length = k := by rw [List.length_take]; omega
      have HT := Lib.hid (hA1.take k)
      have HLK := Lib.hid hlk
      have hsw := IntWalk.i64_in ((n : Int) - 1) (by omega)
      clear hlk hA1
      cases hq : inr 0 ((n : Int) - 1) os[k]
      · have HQ := Lib.hid hq
        have HNO := Lib.hid (ordOk_no hlt (atOrd_1 hlt hq))
        clear hq
        go_wp2_with fail
        refine wp_region_past (by kernel_rfl) (by kernel_rfl) ?_
        repeat (go_big_quiet_step ((go_at_call 69; exact Past.sameB _ HQ.out (l00In_any _ _ _ _))))
        refine wpQuiet_nil ?_
        intro W1 hw'
        obtain ⟨⟨W_, hb1⟩, hw''⟩ := hw'
        subst hw''
        try clear hsw
        clear q0
        go_wp2
        go_ret
        exact ⟨ret_bool HNO.out.symm, Bel.trans hbel hb1⟩
      · cases hh : hasIn (os.take k) os[k]
        · have HQ := Lib.hid hq
          have HH := Lib.hid hh
          have HNO := Lib.hid (atOrd_0 hlt hq hh)
          clear hq hh
          go_wp2_with fail
          refine wp_region_past (by kernel_rfl) (by kernel_rfl) ?_
          repeat (go_big_quiet_step ((first | (go_at_call 69; exact Past.sameB _ HQ.out (l00In_any _ _ _ _)) | (go_at_call 75; exact Past.sameB _ HH.out (l00Has_any (os.take k) b2 _ k os[k] _ (HT.out.below (Past.h _)) HLK.out (by omega))))))
          refine wpQuiet_nil ?_
          intro W1 hw'
          obtain ⟨⟨W_, hb1⟩, hw''⟩ := hw'
          subst hw''
          try clear hsw
          clear q0
          go_wp2
          go_roundw
          case rel => exact ⟨k + 1, by omega, by go_num, all_range_snoc HL.out HNO.out, Bel.trans hbel hb1⟩
          case measure => simp [intOf]; omega
        · have HQ := Lib.hid hq
          have HH := Lib.hid hh
          have HNO := Lib.hid (ordOk_no hlt (atOrd_2 (n := n) hlt hh))
          clear hq hh
          go_wp2_with fail
          refine wp_region_past (by kernel_rfl) (by kernel_rfl) ?_
          repeat (go_big_quiet_step ((first | (go_at_call 69; exact Past.sameB _ HQ.out (l00In_any _ _ _ _)) | (go_at_call 75; exact Past.sameB _ HH.out (l00Has_any (os.take k) b2 _ k os[k] _ (HT.out.below (Past.h _)) HLK.out (by omega))))))
          refine wpQuiet_nil ?_
          intro W1 hw'
          obtain ⟨⟨W_, hb1⟩, hw''⟩ := hw'
          subst hw''
          try clear hsw
          clear q0
          go_wp2
          go_ret
          exact ⟨ret_bool HNO.out.symm, Bel.trans hbel hb1⟩
    · obtain rfl : k = os.length := by omega
      go_wp2
      go_ret
      exact ⟨ret_bool HL.out.symm, hbel⟩
def askS (xs : List SShot) (os : List Int) (n : Int) : Int := if vlShot xs then (if ordOk xs.length os then (if inr 1 3 n then 0 else 2) else 7) else 1
theorem askS_ok {xs : List SShot} {os : List Int} {n : Int} (h : askS xs os n = 0) : vlShot xs = true ∧ ordOk xs.length os = true ∧ inr 1 3 n = true := by
  unfold askS at h
  repeat' split at h
  all_goals (first | omega | (exact ⟨by assumption, by assumption, by assumption⟩))
theorem l22Crews_any (n : Int) (w : World) : Calls Try.prog 63 #[.int .i64 n] w fun e w' => e = .returned (.bool (inr 1 3 n)) ∧ w = w' := by
  go_enter Try.func63, Try.ntmps63
  go_wp2_with (go_at_call 69; refine (l00In_any _ _ _ _).mono ?_; rintro e w' ⟨rfl, rfl⟩)
  go_ret
  exact ⟨rfl, rfl⟩
theorem l22Ask_any (xs : List SShot) (os : List Int) (b c b2 c2 : Nat) (n : Int) (w : World) (A : Arr SShot.cells 5 w b xs) (A2 : Arr intc 1 w b2 os) (hn : xs.length ≤ 1048576) (hn2 : os.length ≤ 1048576) (hc2 : os.length ≤ c2) (hf : ∀ i (h : i < xs.length), xs[i].Id.size ≤ 9223372036854775807) :
    Calls Try.prog 39 #[.slice (some ⟨b, 0, none⟩) xs.length c, .slice (some ⟨b2, 0, none⟩) os.length c2, .int .i64 n] w fun e w' => e = .returned (.int .i64 (askS xs os n)) ∧ Below w.heap.size w w' := by
  have HA := Lib.hid A
  have HA2 := Lib.hid A2
  have HF := Lib.hid hf
  clear A A2 hf
  go_enter Try.func39, Try.ntmps39
  go_wp2_with (first | (go_at_call 61; refine (l22Ok_any xs b c _ HA.out hn HF.out).mono ?_; rintro e w1 ⟨rfl, hb1⟩) | (go_at_call 63; refine (l22Crews_any _ _).mono ?_; rintro e w' ⟨rfl, rfl⟩) | (go_at_call 62; refine (l22Order_any xs.length os _ c b2 c2 _ (HA2.out.below hb1) hn hn2 hc2).mono ?_; rintro e w2 ⟨rfl, hb2⟩))
  all_goals
    go_ret
    exact ⟨ret_int (by simp only [Bool.not_eq_true', Bool.not_eq_false'] at *; simp [askS, *]), (by repeat (first | (with_reducible assumption) | (with_reducible exact Below.refl _ _) | (with_reducible refine Bel.alloc ?_ _) | (with_reducible refine Below.drew ?_) | (with_reducible refine Bel.drewN ?_ _) | (with_reducible refine Bel.setCell ?_ (by (try simp) <;> omega) _) | (with_reducible refine Bel.trans ?_ (by assumption))))⟩
def gnA (xs : List SShot) (i : Nat) : Int := if h : i < xs.length then xs[i].Gain else 0
theorem gnA_at {xs : List SShot} {i : Nat} (h : i < xs.length) : gnA xs i = xs[i].Gain := by rw [gnA, dif_pos h]
def sgTo (xs : List SShot) (os : List Int) : Nat → Int
  | 0 => 0
  | k + 1 => if h : k < os.length then sgTo xs os k + gnA xs os[k].toNat else sgTo xs os k
theorem sgTo_at {xs : List SShot} {os : List Int} {k i : Nat} {g : Int} (hk : k < os.length) (hi : i < xs.length) (ho : os[k] = (i : Int)) (h : sgTo xs os k = g) : sgTo xs os (k + 1) = g + xs[i].Gain := by rw [sgTo, dif_pos hk, ho, Int.toNat_natCast, h, gnA_at hi]
def sgRes (xs : List SShot) (os : List Int) : Int × Int := if vlShot xs then (if ordOk xs.length os then (sgTo xs os os.length, 0) else (0, 7)) else (0, 1)
theorem sgRes_1 {xs : List SShot} {os : List Int} (h : vlShot xs = false) : sgRes xs os = (0, 1) := by rw [sgRes, if_neg (by rw [h]; simp)]
theorem sgRes_7 {xs : List SShot} {os : List Int} (h : vlShot xs = true) (h2 : ordOk xs.length os = false) : sgRes xs os = (0, 7) := by rw [sgRes, if_pos h, if_neg (by rw [h2]; simp)]
theorem sgRes_0 {xs : List SShot} {os : List Int} (h : vlShot xs = true) (h2 : ordOk xs.length os = true) : sgRes xs os = (sgTo xs os os.length, 0) := by rw [sgRes, if_pos h, if_pos h2]
theorem sgRes_c {xs : List SShot} {os : List Int} {c : Int} (h : askS xs os 1 = c) (hc : c ≠ 0) : sgRes xs os = (0, c) := by
  cases h1 : vlShot xs
  · rw [sgRes_1 h1, ← h, askS, h1]; rfl
  · cases h2 : ordOk xs.length os
    · rw [sgRes_7 h1 h2, ← h, askS, h1, h2]; rfl
    · rw [askS, h1, h2] at h; exact absurd h.symm hc
theorem gainOf_any (xs : List SShot) (os : List Int) (b c b2 c2 : Nat) (w : World) (A : Arr SShot.cells 5 w b xs) (A2 : Arr intc 1 w b2 os) (hn2 : os.length ≤ 1048576) (hv : vlShot xs = true) (ho : ordOk xs.length os = true) :
    Calls Try.prog 42 #[.slice (some ⟨b, 0, none⟩) xs.length c, .slice (some ⟨b2, 0, none⟩) os.length c2] w fun e w' => e = .returned (.int .i64 (sgTo xs os os.length)) ∧ Below w.heap.size w w' := by
  have HA := Lib.hid A
  have HA2 := Lib.hid A2
  have HVL := Lib.hid hv
  have HOK := Lib.hid ho
  clear A A2 hv ho
  go_enter Try.func42, Try.ntmps42
  go_wp2_with fail
  go_loopw [5, 10] (fun gv i wr => ∃ (k : Nat) (g : Int), k ≤ os.length ∧ i = .int .i64 k ∧ gv = .int .i64 g ∧ sgTo xs os k = g ∧ 0 ≤ g ∧ g ≤ 1000 * k ∧ Below w.heap.size w wr) (fun _ i wr => os.length - (intOf i).toNat)
  case atStart => exact ⟨0, 0, by omega, rfl, rfl, rfl, by omega, by omega, Below.refl _ _⟩
  case round =>
    obtain ⟨k, g, hk, rfl, rfl, hsg, hg0, hg1, hbel⟩ := hrel
    by_cases hlt : k < os.length
    · have c0 := (HA2.out.below hbel).get hlt 0 k rfl (by omega)
      obtain ⟨i, hi, hoi⟩ := ordOk_at HOK.out hlt
      obtain ⟨e0, e1, e2, e3, e4⟩ := SShot.elem (HA.out.below hbel) hi
      have hbd := okShot_bd (vlShot_ok HVL.out i hi)
      rw [hoi] at c0
      have hn := sgTo_at hlt hi hoi hsg
      have HN := Lib.hid hn
      clear hn hsg hoi
      go_wp2
      go_roundw
      case rel => exact ⟨k + 1, g + xs[i].Gain, by omega, by go_num, rfl, HN.out, by omega, by omega, hbel⟩
      case measure => simp [intOf]; omega
    · obtain rfl : k = os.length := by omega
      have HFB := Lib.hid hsg
      clear hsg
      go_wp2
      go_ret; exact ⟨ret_int HFB.out.symm, hbel⟩
theorem ShotGain_any (xs : List SShot) (os : List Int) (b c b2 c2 : Nat) (w : World) (A : Arr SShot.cells 5 w b xs) (A2 : Arr intc 1 w b2 os) (hn : xs.length ≤ 1048576) (hn2 : os.length ≤ 1048576) (hc2 : os.length ≤ c2) (hf : ∀ i (h : i < xs.length), xs[i].Id.size ≤ 9223372036854775807) :
    Calls Try.prog 18 #[.slice (some ⟨b, 0, none⟩) xs.length c, .slice (some ⟨b2, 0, none⟩) os.length c2] w fun e w' => e = .returned (.tuple #[.int .i64 (sgRes xs os).1, .int .i64 (sgRes xs os).2]) ∧ Below w.heap.size w w' := by
  have HA := Lib.hid A
  have HA2 := Lib.hid A2
  have HF := Lib.hid hf
  clear A A2 hf
  go_enter Try.func18, Try.ntmps18
  go_wp2_with (first | (go_at_call 40; refine (ValidShots_any xs b c _ HA.out hn HF.out).mono ?_; rintro e w1 ⟨rfl, hb1⟩) | (go_at_call 41; refine (orderOk_any xs.length os _ c b2 c2 _ (HA2.out.below hb1) hn hn2 hc2).mono ?_; rintro e w2 ⟨rfl, hb2⟩) | (go_at_call 42; refine (gainOf_any xs os b c b2 c2 _ (HA.out.below (Bel.trans hb1 hb2)) (HA2.out.below (Bel.trans hb1 hb2)) hn2 (by first | assumption | exact not_f (by assumption) | exact not_t (by assumption)) (by first | assumption | exact not_f (by assumption) | exact not_t (by assumption))).mono ?_; rintro e w3 ⟨rfl, hb3⟩))
  · go_ret2
    rw [sgRes_1 (by first | assumption | exact not_f (by assumption) | exact not_t (by assumption))]
    exact ⟨rfl, hb1⟩
  · go_ret2
    rw [sgRes_7 (by first | assumption | exact not_f (by assumption) | exact not_t (by assumption)) (by first | assumption | exact not_f (by assumption) | exact not_t (by assumption))]
    exact ⟨rfl, Bel.trans hb1 hb2⟩
  · go_ret2
    rw [sgRes_0 (by first | assumption | exact not_f (by assumption) | exact not_t (by assumption)) (by first | assumption | exact not_f (by assumption) | exact not_t (by assumption))]
    exact ⟨rfl, Bel.trans (Bel.trans hb1 hb2) hb3⟩
theorem sShotGain_any (xs : List SShot) (os : List Int) (b c b2 c2 : Nat) (w : World) (A : Arr SShot.cells 5 w b xs) (A2 : Arr intc 1 w b2 os) (hn : xs.length ≤ 1048576) (hn2 : os.length ≤ 1048576) (hc2 : os.length ≤ c2) (hf : ∀ i (h : i < xs.length), xs[i].Id.size ≤ 9223372036854775807) :
    Calls Try.prog 17 #[.slice (some ⟨b, 0, none⟩) xs.length c, .slice (some ⟨b2, 0, none⟩) os.length c2] w fun e w' => e = .returned (.tuple #[.int .i64 (sgRes xs os).1, .int .i64 (sgRes xs os).2]) ∧ Below w.heap.size w w' := by
  have HA := Lib.hid A
  have HA2 := Lib.hid A2
  have hak := l22Ask_any xs os b c b2 c2 1 w A A2 hn hn2 hc2 hf
  obtain ⟨cc, hcc⟩ : ∃ cc, askS xs os 1 = cc := ⟨_, rfl⟩
  rw [hcc] at hak
  have HCC := Lib.hid hcc
  have HAK := Lib.hid hak
  clear A A2 hf hcc hak
  go_enter Try.func17, Try.ntmps17
  go_wp2_with fail
  refine HAK.out.mono ?_
  rintro e w1 ⟨rfl, hb1⟩
  by_cases hz : cc = 0
  · have hz1 : (cc != 0) = false := by simp [hz]
    have hc0 := HCC.out
    rw [hz] at hc0
    obtain ⟨h1, h2, _⟩ := askS_ok hc0
    have HVL := Lib.hid h1
    have HOK := Lib.hid h2
    clear hc0 h1 h2
    go_wp2_with fail
    go_loopw [7, 8] (fun gv i wr => ∃ (k : Nat) (g : Int), k ≤ os.length ∧ i = .int .i64 k ∧ gv = .int .i64 g ∧ sgTo xs os k = g ∧ 0 ≤ g ∧ g ≤ 1000 * k ∧ Below w.heap.size w wr) (fun _ i wr => os.length - (intOf i).toNat)
    case atStart => exact ⟨0, 0, by omega, rfl, rfl, rfl, by omega, by omega, hb1⟩
    case round =>
      obtain ⟨k, g, hk, rfl, rfl, hsg, hg0, hg1, hbel⟩ := hrel
      by_cases hlt : k < os.length
      · have c0 := (HA2.out.below hbel).get hlt 0 k rfl (by omega)
        obtain ⟨i, hi, hoi⟩ := ordOk_at HOK.out hlt
        obtain ⟨e0, e1, e2, e3, e4⟩ := SShot.elem (HA.out.below hbel) hi
        have hbd := okShot_bd (vlShot_ok HVL.out i hi)
        rw [hoi] at c0
        have hn := sgTo_at hlt hi hoi hsg
        have HN := Lib.hid hn
        clear hn hsg hoi
        go_wp2
        go_roundw
        case rel => exact ⟨k + 1, g + xs[i].Gain, by omega, by go_num, rfl, HN.out, by omega, by omega, hbel⟩
        case measure => simp [intOf]; omega
      · obtain rfl : k = os.length := by omega
        have HFB := Lib.hid hsg
        clear hsg
        go_wp2
        go_ret2; rw [sgRes_0 HVL.out HOK.out, HFB.out]; exact ⟨rfl, hbel⟩
  · have hz1 : (cc != 0) = true := by simp [hz]
    have HZ := Lib.hid hz
    clear hz
    go_wp2
    go_ret2
    rw [sgRes_c HCC.out HZ.out]
    exact ⟨rfl, hb1⟩
end Go.Proofs.Ytocipeididkllaa
