/- Chapter 25: the chance that a victim is found up to a minute: FoundBy. -/
import Derived.Test.YtdkiahlpajgekaaL25f
namespace Go.Proofs.Ytdkiahlpajgekaa
set_option linter.unusedSimpArgs false
set_option linter.unusedVariables false
open Go.RowKit
set_option maxHeartbeats 400000
set_option maxRecDepth 100000
def askCode (xs : List SArea) (os : List Int) (s : Int) : Int := if okAreas xs then (if inr 0 1000 s then (if ordOk xs.length os then 0 else 7) else 2) else 1
theorem facode_ask {xs : List SArea} {os : List Int} {s m : Int} (h : inr 0 1000 m = true) : facode xs os s m = askCode xs os s := by rw [facode, askCode, h, Bool.and_true]
theorem l25Ask_any (xs : List SArea) (os : List Int) (b c b2 c2 : Nat) (s : Int) (w : World) (A : Arr SArea.cells 3 w b xs) (A2 : Arr intc 1 w b2 os) (hn : xs.length ≤ 1048576) (hn2 : os.length ≤ 1048576) (hc2 : os.length ≤ c2) (hf : ∀ i (h : i < xs.length), xs[i].Id.size ≤ 9223372036854775807) :
    Calls Try.prog 17 #[.slice (some ⟨b, 0, none⟩) xs.length c, .slice (some ⟨b2, 0, none⟩) os.length c2, .int .i64 s] w fun e w' => e = .returned (.int .i64 (askCode xs os s)) ∧ Below w.heap.size w w' := by
  have HA := Lib.hid A
  have HA2 := Lib.hid A2
  have HF := Lib.hid hf
  clear A A2 hf
  have HVA := Lib.hid (fun w A => l25Ok_any xs b c w A hn HF.out)
  rw [show (vlArea xs && decide (sumR (fdAreaChance xs) xs.length ≤ 1000)) = okAreas xs from rfl] at HVA
  go_enter Try.func17, Try.ntmps17
  go_wp2_with (first | (go_at_call 15; refine (HVA.out _ HA.out).mono ?_; rintro e w1 ⟨rfl, hb1⟩) | (go_at_call 16; refine (l25Late_any _ _).mono ?_; rintro e w' ⟨rfl, rfl⟩) | (go_at_call 28; refine (l25Order_any xs.length os _ c b2 c2 _ (HA2.out.below hb1) hn hn2 hc2).mono ?_; rintro e w2 ⟨rfl, hb2⟩))
  all_goals
    go_ret
    exact ⟨ret_int (by simp only [Bool.not_eq_true', Bool.not_eq_false'] at *; simp [askCode, *]), (by repeat (first | (with_reducible assumption) | (with_reducible exact Below.refl _ _) | (with_reducible refine Bel.alloc ?_ _) | (with_reducible refine Below.drew ?_) | (with_reducible refine Bel.drewN ?_ _) | (with_reducible refine Bel.setCell ?_ (by (try simp) <;> omega) _) | (with_reducible refine Bel.trans ?_ (by assumption))))⟩
theorem FoundBy_any (xs : List SArea) (os : List Int) (b c b2 c2 : Nat) (start minute : Int) (w : World) (A : Arr SArea.cells 3 w b xs) (A2 : Arr intc 1 w b2 os) (hn : xs.length ≤ 1048576) (hn2 : os.length ≤ 1048576) (hc2 : os.length ≤ c2) (hf : ∀ i (h : i < xs.length), xs[i].Id.size ≤ 9223372036854775807) :
    Calls Try.prog 9 #[.slice (some ⟨b, 0, none⟩) xs.length c, .slice (some ⟨b2, 0, none⟩) os.length c2, .int .i64 start, .int .i64 minute] w fun e w' => e = .returned (.tuple #[.int .i64 (fbRes xs os start minute).1, .int .i64 (fbRes xs os start minute).2]) ∧ Below w.heap.size w w' := by
  have HA := Lib.hid A
  have HA2 := Lib.hid A2
  have HF := Lib.hid hf
  clear A A2 hf
  obtain ⟨cc, hcc⟩ : ∃ cc, facode xs os start minute = cc := ⟨_, rfl⟩
  have HCC := Lib.hid hcc
  clear hcc
  go_enter Try.func9, Try.ntmps9
  go_wp2_with fail
  refine calls_box_out ?_
  intro W hbw B
  refine (areasCode_any xs os b c b2 c2 w.heap.size _ start minute _ (HA.out.below hbw) (HA2.out.below hbw) (arr2 B) hn hn2 hc2 HF.out).mono ?_
  rw [HCC.out]
  rintro e w1 ⟨rfl, hb1⟩
  have hbw := Bel.trans hbw hb1
  clear B hb1
  by_cases hz : cc = 0
  · have hz1 : (cc != 0) = false := by simp [hz]
    have hc0 := HCC.out
    rw [hz] at hc0
    obtain ⟨ho1, ho2, ho3, ho4⟩ := facode_ok hc0
    obtain ⟨hs0, hs1⟩ := inr_bd' ho2
    obtain ⟨hm0, hm1⟩ := inr_bd' ho3
    have HVL := Lib.hid (okAreas_vl ho1)
    have HOK := Lib.hid ho4
    have HFC := Lib.hid hc0
    clear hc0 ho1 ho2 ho3 ho4
    go_wp2_with fail
    go_loopw [2, 11, 25] (fun av qv i wr => ∃ (k : Nat) (a q : Int), k ≤ os.length ∧ i = .int .i64 k ∧ av = .int .i64 a ∧ qv = .int .i64 q ∧ fbTo xs os start minute k = (a, q) ∧ 0 ≤ a ∧ a ≤ 1000 + 600 * k ∧ 0 ≤ q ∧ q ≤ 1000 * k ∧ Below w.heap.size w wr) (fun _ _ i wr => os.length - (intOf i).toNat)
    case atStart => exact ⟨0, start, 0, by omega, rfl, rfl, rfl, rfl, hs0, by omega, by omega, by omega, hbw⟩
    case round =>
      obtain ⟨k, a, q, hk, rfl, rfl, rfl, hfb, ha0, ha1, hq0, hq1, hbel⟩ := hrel
      by_cases hlt : k < os.length
      · have c0 := (HA2.out.below hbel).get hlt 0 k rfl (by omega)
        obtain ⟨i, hi, hoi⟩ := ordOk_at HOK.out hlt
        obtain ⟨e0, e1, e2⟩ := SArea.elem (HA.out.below hbel) hi
        have hbd := okArea_bd (vlArea_ok HVL.out i hi)
        rw [hoi] at c0
        by_cases hm : a + xs[i].Minutes ≤ minute
        · have hn := fbTo_yes hlt hi hoi hfb hm
          have HN := Lib.hid hn
          clear hn hfb hoi
          go_wp2
          go_roundw
          case rel => exact ⟨k + 1, a + xs[i].Minutes, q + xs[i].Chance, by omega, by go_num, rfl, rfl, HN.out, by omega, by omega, by omega, by omega, hbel⟩
          case measure => simp [intOf]; omega
        · have hn := fbTo_no hlt hi hoi hfb hm
          have HN := Lib.hid hn
          clear hn hfb hoi
          go_wp2
          go_roundw
          case rel => exact ⟨k + 1, a + xs[i].Minutes, q, by omega, by go_num, rfl, rfl, HN.out, by omega, by omega, by omega, by omega, hbel⟩
          case measure => simp [intOf]; omega
      · obtain rfl : k = os.length := by omega
        have HFB := Lib.hid hfb
        clear hfb
        go_wp2
        go_ret2
        rw [fbRes_0 HFC.out HFB.out]
        exact ⟨rfl, hbel⟩
  · have hz1 : (cc != 0) = true := by simp [hz]
    have HZ := Lib.hid hz
    clear hz
    go_wp2
    go_ret2
    rw [fbRes_c HCC.out HZ.out]
    exact ⟨rfl, hbw⟩
theorem sFoundBy_any (xs : List SArea) (os : List Int) (b c b2 c2 : Nat) (start minute : Int) (w : World) (A : Arr SArea.cells 3 w b xs) (A2 : Arr intc 1 w b2 os) (hn : xs.length ≤ 1048576) (hn2 : os.length ≤ 1048576) (hc2 : os.length ≤ c2) (hf : ∀ i (h : i < xs.length), xs[i].Id.size ≤ 9223372036854775807) :
    Calls Try.prog 6 #[.slice (some ⟨b, 0, none⟩) xs.length c, .slice (some ⟨b2, 0, none⟩) os.length c2, .int .i64 start, .int .i64 minute] w fun e w' => e = .returned (.tuple #[.int .i64 (fbRes xs os start minute).1, .int .i64 (fbRes xs os start minute).2]) ∧ Below w.heap.size w w' := by
  have HA := Lib.hid A
  have HA2 := Lib.hid A2
  have HF := Lib.hid hf
  clear A A2 hf
  have HVA := Lib.hid (fun w A => l25Ok_any xs b c w A hn HF.out)
  rw [show (vlArea xs && decide (sumR (fdAreaChance xs) xs.length ≤ 1000)) = okAreas xs from rfl] at HVA
  cases hv : okAreas xs
  · have h1 := facode_1 (os := os) (s := start) (m := minute) hv
    have H1 := Lib.hid h1
    rw [hv] at HVA
    clear h1 hv
    go_enter Try.func6, Try.ntmps6
    go_wp2_with (go_at_call 15; refine (HVA.out _ HA.out).mono ?_; rintro e w1 ⟨rfl, hb1⟩)
    go_ret2
    rw [fbRes_c H1.out (by omega)]
    exact ⟨rfl, hb1⟩
  cases hm : inr 0 1000 minute
  · have h1 : facode xs os start minute = 2 := facode_2 hv (by rw [hm, Bool.and_false])
    have H1 := Lib.hid h1
    have HM := Lib.hid hm
    rw [hv] at HVA
    clear h1 hv hm
    go_enter Try.func6, Try.ntmps6
    go_wp2_with (first | (go_at_call 15; refine (HVA.out _ HA.out).mono ?_; rintro e w1 ⟨rfl, hb1⟩) | (go_at_call 16; refine (Calls.boolIs HM.out (l25Late_any _ _)).mono ?_; rintro e w' ⟨rfl, rfl⟩))
    go_ret2
    rw [fbRes_c H1.out (by omega)]
    exact ⟨rfl, hb1⟩
  have hfa := facode_ask (xs := xs) (os := os) (s := start) hm
  obtain ⟨cc, hcc⟩ : ∃ cc, facode xs os start minute = cc := ⟨_, rfl⟩
  rw [hcc] at hfa
  have HFA := Lib.hid hfa.symm
  have HCC := Lib.hid hcc
  have HM := Lib.hid hm
  rw [hv] at HVA
  clear hcc hfa hm hv
  go_enter Try.func6, Try.ntmps6
  go_wp2_with (first | (go_at_call 15; refine (HVA.out _ HA.out).mono ?_; rintro e w1 ⟨rfl, hb1⟩) | (go_at_call 16; refine (Calls.boolIs HM.out (l25Late_any _ _)).mono ?_; rintro e w' ⟨rfl, rfl⟩))
  refine (l25Ask_any xs os b c b2 c2 start _ (HA.out.below hb1) (HA2.out.below hb1) hn hn2 hc2 HF.out).mono ?_
  rw [HFA.out]
  rintro e w2 ⟨rfl, hb2⟩
  have hbw := Bel.trans hb1 hb2
  clear hb1 hb2
  by_cases hz : cc = 0
  · have hz1 : (cc != 0) = false := by simp [hz]
    have hc0 := HCC.out
    rw [hz] at hc0
    obtain ⟨ho1, ho2, ho3, ho4⟩ := facode_ok hc0
    obtain ⟨hs0, hs1⟩ := inr_bd' ho2
    obtain ⟨hm0, hm1⟩ := inr_bd' ho3
    have HVL := Lib.hid (okAreas_vl ho1)
    have HOK := Lib.hid ho4
    have HFC := Lib.hid hc0
    clear hc0 ho1 ho2 ho3 ho4
    go_wp2_with fail
    go_loopw [11, 12, 13] (fun qv av i wr => ∃ (k : Nat) (a q : Int), k ≤ os.length ∧ i = .int .i64 k ∧ av = .int .i64 a ∧ qv = .int .i64 q ∧ fbTo xs os start minute k = (a, q) ∧ 0 ≤ a ∧ a ≤ 1000 + 600 * k ∧ 0 ≤ q ∧ q ≤ 1000 * k ∧ Below w.heap.size w wr) (fun _ _ i wr => os.length - (intOf i).toNat)
    case atStart => exact ⟨0, start, 0, by omega, rfl, rfl, rfl, rfl, hs0, by omega, by omega, by omega, hbw⟩
    case round =>
      obtain ⟨k, a, q, hk, rfl, rfl, rfl, hfb, ha0, ha1, hq0, hq1, hbel⟩ := hrel
      by_cases hlt : k < os.length
      · have c0 := (HA2.out.below hbel).get hlt 0 k rfl (by omega)
        obtain ⟨i, hi, hoi⟩ := ordOk_at HOK.out hlt
        obtain ⟨e0, e1, e2⟩ := SArea.elem (HA.out.below hbel) hi
        have hbd := okArea_bd (vlArea_ok HVL.out i hi)
        rw [hoi] at c0
        by_cases hm : a + xs[i].Minutes ≤ minute
        · have hn := fbTo_yes hlt hi hoi hfb hm
          have HN := Lib.hid hn
          clear hn hfb hoi
          go_wp2
          go_roundw
          case rel => exact ⟨k + 1, a + xs[i].Minutes, q + xs[i].Chance, by omega, by go_num, rfl, rfl, HN.out, by omega, by omega, by omega, by omega, hbel⟩
          case measure => simp [intOf]; omega
        · have hn := fbTo_no hlt hi hoi hfb hm
          have HN := Lib.hid hn
          clear hn hfb hoi
          go_wp2
          go_roundw
          case rel => exact ⟨k + 1, a + xs[i].Minutes, q, by omega, by go_num, rfl, rfl, HN.out, by omega, by omega, by omega, by omega, hbel⟩
          case measure => simp [intOf]; omega
      · obtain rfl : k = os.length := by omega
        have HFB := Lib.hid hfb
        clear hfb
        go_wp2
        go_ret2
        rw [fbRes_0 HFC.out HFB.out]
        exact ⟨rfl, hbel⟩
  · have hz1 : (cc != 0) = true := by simp [hz]
    have HZ := Lib.hid hz
    clear hz
    go_wp2
    go_ret2
    rw [fbRes_c HCC.out HZ.out]
    exact ⟨rfl, hbw⟩
end Go.Proofs.Ytdkiahlpajgekaa
