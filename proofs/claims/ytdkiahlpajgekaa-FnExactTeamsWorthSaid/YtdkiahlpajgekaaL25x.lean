/- Chapter 25: TeamsWorth: the walks. -/
import Derived.Test.YtdkiahlpajgekaaL25w
namespace Go.Proofs.Ytdkiahlpajgekaa
set_option linter.unusedSimpArgs false
set_option linter.unusedVariables false
open Go.RowKit
set_option maxHeartbeats 400000
set_option maxRecDepth 100000
theorem idxL_mem {α : Type} {q : α → Bool} {xs : List α} {n : Nat} : ∀ {k : Nat} (h : k < (idxL q xs n).length), ∃ i : Nat, i < xs.length ∧ (idxL q xs n)[k] = (i : Int) := by
  induction n with
  | zero => intro k h; simp [idxL] at h
  | succ n ih =>
    intro k h
    by_cases hn : n < xs.length
    · cases hq : q xs[n]
      · have e := idxL_no hn hq
        simp only [e] at h ⊢
        exact ih h
      · have e := idxL_yes hn hq
        simp only [e] at h ⊢
        by_cases hk : k < (idxL q xs n).length
        · obtain ⟨i, hi, he⟩ := ih hk
          exact ⟨i, hi, by rw [List.getElem_append_left hk]; exact he⟩
        · have hk2 : k = (idxL q xs n).length := by simp at h; omega
          subst hk2
          exact ⟨n, hn, by simp⟩
    · have e : idxL q xs (n + 1) = idxL q xs n := by rw [idxL, dif_neg hn]
      simp only [e] at h ⊢
      exact ih h
theorem sumT_bd {xs : List SArea} (hv : vlArea xs = true) {ts : List Int} {s : Int} (hs : 0 ≤ s) (k n : Nat) : 0 ≤ sumT xs ts s k n ∧ sumT xs ts s k n ≤ 1000000 * (k : Int) * n := by
  induction n with
  | zero => simp [sumT]
  | succ n ih =>
    have h1 := woL_bd hv hs (idxL (ofT (n : Int)) ts k)
    have h2 := idxL_len (ofT (n : Int)) ts k
    have e : 1000000 * (k : Int) * ((n + 1 : Nat) : Int) = 1000000 * (k : Int) * n + 1000000 * k := by rw [Int.natCast_succ, Int.mul_add, Int.mul_one]
    simp only [sumT]
    omega
theorem l25Teams_any (xs : List SArea) (ts : List Int) (b c b2 c2 : Nat) (s : Int) (w : World) (A : Arr SArea.cells 3 w b xs) (A2 : Arr intc 1 w b2 ts) (hv : vlArea xs = true) (hl : ts.length ≤ xs.length) (ht : ∀ k (hk : k < ts.length), 0 ≤ ts[k] ∧ ts[k] ≤ 3) (hs0 : 0 ≤ s) (hs1 : s ≤ 1000) :
    Calls Try.prog 22 #[.slice (some ⟨b, 0, none⟩) xs.length c, .slice (some ⟨b2, 0, none⟩) ts.length c2, .int .i64 s] w fun e w' => e = .returned (.int .i64 (twTo xs ts s ts.length)) ∧ Below w.heap.size w w' := by
  have hlen := vlArea_len hv
  rw [← sumT_tw ht]
  have HA := Lib.hid A
  have HA2 := Lib.hid A2
  have HV := Lib.hid hv
  clear A A2 hv ht
  go_enter Try.func22, Try.ntmps22
  go_wp2_with fail
  go_loopw [7, 8] (fun q t wr => ∃ (n : Nat) (sm : Int), n ≤ 4 ∧ t = .int .i64 n ∧ q = .int .i64 sm ∧ sumT xs ts s ts.length n = sm ∧ Below w.heap.size w wr) (fun _ t wr => 4 - (intOf t).toNat)
  case atStart => exact ⟨0, 0, by omega, rfl, rfl, rfl, Below.refl _ _⟩
  case round =>
    obtain ⟨n, sm, hn, rfl, rfl, hsm, hbel⟩ := hrel
    have hsb := sumT_bd HV.out (ts := ts) hs0 ts.length n
    rw [hsm] at hsb
    have hsb2 : sm ≤ 100000000 := by
      have : (ts.length : Int) * (n : Int) ≤ 8 * 4 := Int.mul_le_mul (by omega) (by omega) (by omega) (by omega)
      have e : 1000000 * (ts.length : Int) * (n : Int) = 1000000 * ((ts.length : Int) * n) := Int.mul_assoc _ _ _
      omega
    have HSM := Lib.hid hsm
    have hsb0 := hsb.1
    clear hsm hsb
    rename World => wo
    by_cases hlt : n < 4
    · have hdt : decide ((n : Int) < 4) = true := decide_eq_true (by omega)
      go_wp2_with fail
      go_loopw [9, 10] (fun v i wr => ∃ k : Nat, k ≤ ts.length ∧ i = .int .i64 k ∧ Row intc 1 2 wr w.heap.size v (idxL (ofT (n : Int)) ts k) ∧ Below w.heap.size w wr) (fun _ i wr => ts.length - (intOf i).toNat)
      case atStart => exact ⟨0, by omega, rfl, Row.empty hbel.size, Bel.alloc hbel _⟩
      case round =>
        obtain ⟨k, hk, rfl, hrow, hbr⟩ := hrel
        have HR := Lib.hid hrow
        clear hrow
        by_cases hlk : k < ts.length
        · have c0 := (HA2.out.below hbr).get hlk 0 k rfl (by omega)
          have hle := idxL_len (ofT (n : Int)) ts k
          have hsz := hbr.size
          by_cases hq : ts[k] = (n : Int)
          · have HQ := Lib.hid (show ofT (n : Int) ts[k] = true by simpa [ofT] using hq)
            have hq2 : (ts[k] == (n : Int)) = true := by simpa using hq
            clear hq
            go_wp2_with (at_builtin; refine wpList_pushI rfl _ _ 23 rfl w.heap.size 2 Try.underlying23 (by kernel_rfl) u9 (idxL (ofT (n : Int)) ts k) (k : Int) rfl HR.out 1 rfl (by omega) hsz ?_; intro v' w3 hr3 hg3 hb4)
            go_roundw
            case rel => exact ⟨k + 1, by omega, by go_num, by rw [idxL_yes hlk HQ.out]; exact hr3, hbr.trans hb4⟩
            case measure => simp [intOf]; omega
          · have HQ := Lib.hid (show ofT (n : Int) ts[k] = false by simpa [ofT] using hq)
            have hq2 : (ts[k] == (n : Int)) = false := by simpa using hq
            clear hq
            go_wp2
            go_roundw
            case rel => exact ⟨k + 1, by omega, by go_num, by rw [idxL_no hlk HQ.out]; exact HR.out, hbr⟩
            case measure => simp [intOf]; omega
        · obtain rfl : k = ts.length := by omega
          have hle := idxL_len (ofT (n : Int)) ts ts.length
          have hwb := woL_bd HV.out hs0 (idxL (ofT (n : Int)) ts ts.length)
          obtain ⟨D, d, rfl, hS⟩ := HR.out.form (fun _ => rfl)
          have hwa := l25Worth_any xs (idxL (ofT (n : Int)) ts ts.length) b c D d s wr (HA.out.below hbr) hS HV.out (by omega) (fun k hk => by obtain ⟨i, hi, he⟩ := idxL_mem hk; exact ⟨i, by omega, he⟩) hs0 hs1
          obtain ⟨wv, hwv⟩ : ∃ wv, (woL xs s (idxL (ofT (n : Int)) ts ts.length)).2 = wv := ⟨_, rfl⟩
          rw [hwv] at hwb hwa
          have HWV := Lib.hid hwv
          have HWA := Lib.hid hwa
          clear hwv hwa hS HR
          go_wp2_with fail
          refine HWA.out.mono ?_
          rintro e w4 ⟨rfl, hb4⟩
          have hbt := Bel.trans hbr hb4
          clear HWA
          go_wp2
          go_roundw
          case rel => exact ⟨n + 1, _, by omega, by go_num, rfl, by rw [sumT, HSM.out, HWV.out], hbt⟩
          case measure => simp [intOf]; omega
    · obtain rfl : n = 4 := by omega
      go_wp2
      go_ret
      exact ⟨ret_int HSM.out.symm, hbel⟩
theorem TeamsWorth_any (xs : List SArea) (ts : List Int) (b c b2 c2 : Nat) (start : Int) (w : World) (A : Arr SArea.cells 3 w b xs) (A2 : Arr intc 1 w b2 ts) (hn : xs.length ≤ 1048576) (hn2 : ts.length ≤ 1048576) (hf : ∀ i (h : i < xs.length), xs[i].Id.size ≤ 9223372036854775807) :
    Calls Try.prog 13 #[.slice (some ⟨b, 0, none⟩) xs.length c, .slice (some ⟨b2, 0, none⟩) ts.length c2, .int .i64 start] w fun e w' => e = .returned (.tuple #[.int .i64 (twRes xs ts start).1, .int .i64 (twRes xs ts start).2]) ∧ Below w.heap.size w w' := by
  have HA := Lib.hid A
  have HA2 := Lib.hid A2
  have HF := Lib.hid hf
  clear A A2 hf
  have HVA := Lib.hid (fun w A => ValidAreas_any xs b c w A hn HF.out)
  rw [show (vlArea xs && decide (sumR (fdAreaChance xs) xs.length ≤ 1000)) = okAreas xs from rfl] at HVA
  cases hv : okAreas xs
  · have H1 := Lib.hid (twRes_1 (ts := ts) (s := start) hv)
    rw [hv] at HVA
    clear hv
    go_enter Try.func13, Try.ntmps13
    go_wp2_with (go_at_call 23; refine (HVA.out _ HA.out).mono ?_; rintro e w1 ⟨rfl, hb1⟩)
    go_ret2
    rw [H1.out]
    exact ⟨rfl, hb1⟩
  cases hm : inr 0 1000 start
  · have H1 := Lib.hid (twRes_2 (ts := ts) hv hm)
    have HM := Lib.hid hm
    rw [hv] at HVA
    clear hv hm
    go_enter Try.func13, Try.ntmps13
    go_wp2_with (first | (go_at_call 23; refine (HVA.out _ HA.out).mono ?_; rintro e w1 ⟨rfl, hb1⟩) | (go_at_call 24; refine (Calls.boolIs HM.out (lateOk_any _ _)).mono ?_; rintro e w' ⟨rfl, rfl⟩))
    go_ret2
    rw [H1.out]
    exact ⟨rfl, hb1⟩
  obtain ⟨hm0, hm1⟩ := inr_bd' hm
  have HM := Lib.hid hm
  have HOK := Lib.hid hv
  rw [hv] at HVA
  clear hm hv
  by_cases hl : ts.length = xs.length
  · have hl2 : ((ts.length : Int) != (xs.length : Int)) = false := by simp [hl]
    cases ha : allIn 0 3 ts
    · have H7 := Lib.hid (twRes_7 HOK.out HM.out (by rw [ha, Bool.and_false]))
      have HAI := Lib.hid ha
      clear ha hl
      go_enter Try.func13, Try.ntmps13
      go_wp2_with (first | (go_at_call 23; refine (HVA.out _ HA.out).mono ?_; rintro e w1 ⟨rfl, hb1⟩) | (go_at_call 24; refine (Calls.boolIs HM.out (lateOk_any _ _)).mono ?_; rintro e w' ⟨rfl, rfl⟩) | (go_at_call 25; refine (Calls.boolIs HAI.out (allWithin_any ts b2 c2 0 3 _ (HA2.out.below hb1) hn2)).mono ?_; rintro e w2 ⟨rfl, hb2⟩))
      go_ret2
      rw [H7.out]
      exact ⟨rfl, Bel.trans hb1 hb2⟩
    · have H0 := Lib.hid (twRes_0 HOK.out HM.out (by rw [ha, hl]; simp))
      have HAI := Lib.hid ha
      have hle : ts.length ≤ xs.length := by omega
      have HT := Lib.hid (fun k (hk : k < ts.length) => allIn_at ha hk)
      have HTW := Lib.hid (fun w A A2 => teamsWorth_any xs ts b c b2 c2 start w A A2 (okAreas_vl HOK.out) hle HT.out hm0 hm1)
      obtain ⟨tv, htv⟩ : ∃ tv, twTo xs ts start ts.length = tv := ⟨_, rfl⟩
      rw [htv] at HTW H0
      clear ha hl htv hle
      go_enter Try.func13, Try.ntmps13
      go_wp2_with (first | (go_at_call 23; refine (HVA.out _ HA.out).mono ?_; rintro e w1 ⟨rfl, hb1⟩) | (go_at_call 24; refine (Calls.boolIs HM.out (lateOk_any _ _)).mono ?_; rintro e w' ⟨rfl, rfl⟩) | (go_at_call 25; refine (Calls.boolIs HAI.out (allWithin_any ts b2 c2 0 3 _ (HA2.out.below hb1) hn2)).mono ?_; rintro e w2 ⟨rfl, hb2⟩) | (go_at_call 26; refine (HTW.out _ (HA.out.below (Bel.trans hb1 hb2)) (HA2.out.below (Bel.trans hb1 hb2))).mono ?_; rintro e w3 ⟨rfl, hb3⟩))
      go_ret2
      rw [H0.out]
      exact ⟨rfl, Bel.trans (Bel.trans hb1 hb2) hb3⟩
  · have hl2 : ((ts.length : Int) != (xs.length : Int)) = true := by simp only [bne_iff_ne, ne_eq]; omega
    have H7 := Lib.hid (twRes_7 (ts := ts) HOK.out HM.out (by rw [decide_eq_false hl, Bool.false_and]))
    clear hl
    go_enter Try.func13, Try.ntmps13
    go_wp2_with (first | (go_at_call 23; refine (HVA.out _ HA.out).mono ?_; rintro e w1 ⟨rfl, hb1⟩) | (go_at_call 24; refine (Calls.boolIs HM.out (lateOk_any _ _)).mono ?_; rintro e w' ⟨rfl, rfl⟩))
    go_ret2
    rw [H7.out]
    exact ⟨rfl, hb1⟩
theorem allIn_no {lo hi : Int} {xs : List Int} {k : Nat} (hk : k < xs.length) (h : inr lo hi xs[k] = false) : allIn lo hi xs = false := by
  rw [← allIn_any]; simp only [Bool.not_eq_false', List.any_eq_true]; exact ⟨xs[k], List.getElem_mem hk, by rw [h]; rfl⟩
theorem allIn_yes {lo hi : Int} {xs : List Int} (h : ∀ k (hk : k < xs.length), inr lo hi xs[k] = true) : allIn lo hi xs = true := by
  rw [← allIn_any]; simp only [Bool.not_eq_true', List.any_eq_false]
  intro n hn
  obtain ⟨k, hk, rfl⟩ := List.getElem_of_mem hn
  rw [h k hk]; simp
theorem sTeamsWorth_any (xs : List SArea) (ts : List Int) (b c b2 c2 : Nat) (start : Int) (w : World) (A : Arr SArea.cells 3 w b xs) (A2 : Arr intc 1 w b2 ts) (hn : xs.length ≤ 1048576) (hn2 : ts.length ≤ 1048576) (hf : ∀ i (h : i < xs.length), xs[i].Id.size ≤ 9223372036854775807) :
    Calls Try.prog 12 #[.slice (some ⟨b, 0, none⟩) xs.length c, .slice (some ⟨b2, 0, none⟩) ts.length c2, .int .i64 start] w fun e w' => e = .returned (.tuple #[.int .i64 (twRes xs ts start).1, .int .i64 (twRes xs ts start).2]) ∧ Below w.heap.size w w' := by
  have HA := Lib.hid A
  have HA2 := Lib.hid A2
  have HF := Lib.hid hf
  clear A A2 hf
  have HVA := Lib.hid (fun w A => l25Ok_any xs b c w A hn HF.out)
  rw [show (vlArea xs && decide (sumR (fdAreaChance xs) xs.length ≤ 1000)) = okAreas xs from rfl] at HVA
  cases hv : okAreas xs
  · have H1 := Lib.hid (twRes_1 (ts := ts) (s := start) hv)
    rw [hv] at HVA
    clear hv
    go_enter Try.func12, Try.ntmps12
    go_wp2_with (go_at_call 15; refine (HVA.out _ HA.out).mono ?_; rintro e w1 ⟨rfl, hb1⟩)
    go_ret2
    rw [H1.out]
    exact ⟨rfl, hb1⟩
  cases hm : inr 0 1000 start
  · have H1 := Lib.hid (twRes_2 (ts := ts) hv hm)
    have HM := Lib.hid hm
    rw [hv] at HVA
    clear hv hm
    go_enter Try.func12, Try.ntmps12
    go_wp2_with (first | (go_at_call 15; refine (HVA.out _ HA.out).mono ?_; rintro e w1 ⟨rfl, hb1⟩) | (go_at_call 16; refine (Calls.boolIs HM.out (l25Late_any _ _)).mono ?_; rintro e w' ⟨rfl, rfl⟩))
    go_ret2
    rw [H1.out]
    exact ⟨rfl, hb1⟩
  obtain ⟨hm0, hm1⟩ := inr_bd' hm
  have HM := Lib.hid hm
  have HOK := Lib.hid hv
  rw [hv] at HVA
  clear hm hv
  go_enter Try.func12, Try.ntmps12
  go_wp2_with (first | (go_at_call 15; refine (HVA.out _ HA.out).mono ?_; rintro e w1 ⟨rfl, hb1⟩) | (go_at_call 16; refine (Calls.boolIs HM.out (l25Late_any _ _)).mono ?_; rintro e w' ⟨rfl, rfl⟩))
  go_loopw [8] (fun i wr => ∃ k : Nat, k ≤ ts.length ∧ i = .int .i64 k ∧ (∀ j (hj : j < ts.length), j < k → inr 0 3 ts[j] = true) ∧ Below w.heap.size w wr) (fun i wr => ts.length - (intOf i).toNat)
  case atStart => exact ⟨0, by omega, rfl, fun j _ h0 => absurd h0 (Nat.not_lt_zero j), hb1⟩
  case round =>
    obtain ⟨k, hk, rfl, hall, hbel⟩ := hrel
    have HALL := Lib.hid hall
    clear hall
    by_cases hlt : k < ts.length
    · have h0 := (HA2.out.below hbel).get hlt 0 k rfl (by omega)
      cases hq : inr 0 3 ts[k]
      · have H7 := Lib.hid (twRes_7 (xs := xs) HOK.out HM.out (by rw [allIn_no hlt hq, Bool.and_false]))
        have HQ := Lib.hid hq
        clear hq
        go_wp2_with (go_at_call 21; refine (Calls.boolIs HQ.out (l00In_any _ _ _ _)).mono ?_; rintro e w' ⟨rfl, rfl⟩)
        go_ret2
        rw [H7.out]
        exact ⟨rfl, hbel⟩
      · have HQ := Lib.hid hq
        clear hq
        go_wp2_with (go_at_call 21; refine (Calls.boolIs HQ.out (l00In_any _ _ _ _)).mono ?_; rintro e w' ⟨rfl, rfl⟩)
        go_roundw
        case rel => exact ⟨k + 1, by omega, by go_num, fun j hj hjk => by by_cases e : j = k; (subst e; exact HQ.out); exact HALL.out j hj (by omega), hbel⟩
        case measure => simp [intOf]; omega
    · obtain rfl : k = ts.length := by omega
      have ha : allIn 0 3 ts = true := allIn_yes fun j hj => HALL.out j hj hj
      by_cases hl : ts.length = xs.length
      · have hl2 : ((ts.length : Int) != (xs.length : Int)) = false := by simp [hl]
        have H0 := Lib.hid (twRes_0 HOK.out HM.out (by rw [ha, hl]; simp))
        have hle : ts.length ≤ xs.length := by omega
        have HT := Lib.hid (fun k (hk : k < ts.length) => allIn_at ha hk)
        have HTW := Lib.hid (fun w A A2 => l25Teams_any xs ts b c b2 c2 start w A A2 (okAreas_vl HOK.out) hle HT.out hm0 hm1)
        obtain ⟨tv, htv⟩ : ∃ tv, twTo xs ts start ts.length = tv := ⟨_, rfl⟩
        rw [htv] at HTW H0
        clear ha hl htv hle
        go_wp2_with (go_at_call 22; refine (HTW.out _ (HA.out.below hbel) (HA2.out.below hbel)).mono ?_; rintro e w3 ⟨rfl, hb3⟩)
        go_ret2
        rw [H0.out]
        exact ⟨rfl, Bel.trans hbel hb3⟩
      · have hl2 : ((ts.length : Int) != (xs.length : Int)) = true := by simp only [bne_iff_ne, ne_eq]; omega
        have H7 := Lib.hid (twRes_7 (ts := ts) HOK.out HM.out (by rw [decide_eq_false hl, Bool.false_and]))
        clear hl ha
        go_wp2
        go_ret2
        rw [H7.out]
        exact ⟨rfl, hbel⟩
end Go.Proofs.Ytdkiahlpajgekaa
