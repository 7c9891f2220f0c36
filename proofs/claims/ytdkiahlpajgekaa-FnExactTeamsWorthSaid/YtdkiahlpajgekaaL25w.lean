/- Chapter 25: the chance to save a victim by teams: the walks. -/
import Derived.Test.YtdkiahlpajgekaaL25v
namespace Go.Proofs.Ytdkiahlpajgekaa
set_option linter.unusedSimpArgs false
set_option linter.unusedVariables false
open Go.RowKit
set_option maxHeartbeats 400000
set_option maxRecDepth 100000
def etA (xs : List SArea) (ts : List Int) (k : Nat) : Array Value := #[.int .i64 (etTo xs ts 0 k), .int .i64 (etTo xs ts 1 k), .int .i64 (etTo xs ts 2 k), .int .i64 (etTo xs ts 3 k)]
theorem etA_at {xs : List SArea} {ts : List Int} {k c : Nat} (hc : c ≤ 3) : (etA xs ts k)[c]? = some (.int .i64 (etTo xs ts (c : Int) k)) := by
  rcases (show c = 0 ∨ c = 1 ∨ c = 2 ∨ c = 3 by omega) with rfl | rfl | rfl | rfl <;> rfl
theorem etA_set {xs : List SArea} {ts : List Int} {k c : Nat} (h : k < ts.length) (hc : ts[k] = (c : Int)) (hc3 : c ≤ 3) : (etA xs ts k).setIfInBounds c (.int .i64 (etTo xs ts (c : Int) (k + 1))) = etA xs ts (k + 1) := by
  rcases (show c = 0 ∨ c = 1 ∨ c = 2 ∨ c = 3 by omega) with rfl | rfl | rfl | rfl
  · simp only [etA]; rw [etTo_no (t := 1) h (by omega), etTo_no (t := 2) h (by omega), etTo_no (t := 3) h (by omega)]; rfl
  · simp only [etA]; rw [etTo_no (t := 0) h (by omega), etTo_no (t := 2) h (by omega), etTo_no (t := 3) h (by omega)]; rfl
  · simp only [etA]; rw [etTo_no (t := 0) h (by omega), etTo_no (t := 1) h (by omega), etTo_no (t := 3) h (by omega)]; rfl
  · simp only [etA]; rw [etTo_no (t := 0) h (by omega), etTo_no (t := 1) h (by omega), etTo_no (t := 2) h (by omega)]; rfl
theorem teamsWorth_any (xs : List SArea) (ts : List Int) (b c b2 c2 : Nat) (s : Int) (w : World) (A : Arr SArea.cells 3 w b xs) (A2 : Arr intc 1 w b2 ts) (hv : vlArea xs = true) (hl : ts.length ≤ xs.length) (ht : ∀ k (hk : k < ts.length), 0 ≤ ts[k] ∧ ts[k] ≤ 3) (hs0 : 0 ≤ s) (hs1 : s ≤ 1000) :
    Calls Try.prog 26 #[.slice (some ⟨b, 0, none⟩) xs.length c, .slice (some ⟨b2, 0, none⟩) ts.length c2, .int .i64 s] w fun e w' => e = .returned (.int .i64 (twTo xs ts s ts.length)) ∧ Below w.heap.size w w' := by
  have HA := Lib.hid A
  have HA2 := Lib.hid A2
  have HV := Lib.hid hv
  have HT := Lib.hid ht
  have hlen := vlArea_len hv
  clear A A2 hv ht
  go_enter Try.func26, Try.ntmps26
  go_wp2_with fail
  go_loopw [8, 13] (fun q i wr => ∃ (k : Nat) (tw : Int), k ≤ ts.length ∧ i = .int .i64 k ∧ q = .int .i64 tw ∧ twTo xs ts s k = tw ∧ Box 54 wr w.heap.size (etA xs ts k) ∧ Below w.heap.size w wr) (fun _ i wr => ts.length - (intOf i).toNat)
  case atStart => exact ⟨0, 0, by omega, rfl, rfl, rfl, Box.new _ _ _, Bel.alloc (Below.refl _ _) _⟩
  case round =>
    obtain ⟨k, tw, hk, rfl, rfl, htw, BE, hbel⟩ := hrel
    have htb := twTo_bd HV.out ts hs0 k
    rw [htw] at htb
    by_cases hlt : k < ts.length
    · have hlx : k < xs.length := by omega
      obtain ⟨t0, t1⟩ := HT.out k hlt
      obtain ⟨cc, hcc⟩ : ∃ cc : Nat, ts[k] = (cc : Int) := ⟨ts[k].toNat, by omega⟩
      have hc3 : cc ≤ 3 := by omega
      have h0 := (HA2.out.below hbel).get hlt 0 k rfl (by omega)
      rw [hcc] at h0
      have hob := okArea_bd (vlArea_ok HV.out k hlx)
      have heb := etTo_bd HV.out ts (cc : Int) k
      have hy := etTo_yes (xs := xs) hlt hcc
      rw [minA_at hlx] at hy
      have hset := etA_set (xs := xs) hlt hcc hc3
      have htt := twTo_at (xs := xs) (s := s) hlt
      rw [hcc, chA_at hlx, htw] at htt
      obtain ⟨q, hq⟩ : ∃ q, etTo xs ts (cc : Int) (k + 1) = q := ⟨_, rfl⟩
      have hq_ := hq
      obtain ⟨q0, hq0⟩ : ∃ q0, etTo xs ts (cc : Int) k = q0 := ⟨_, rfl⟩
      have hcell : wr.cell? ⟨w.heap.size, cc, none⟩ = some (.int .i64 q0) := by rw [BE.cell, etA_at hc3, hq0]
      rw [hq] at hset htt hy
      rw [hq0] at hy heb
      have hsb := surv_bd (m := s + q) (by omega)
      obtain ⟨sv, hsv⟩ : ∃ sv, surv (s + q) = sv := ⟨_, rfl⟩
      rw [hsv] at htt hsb
      have hcs := cs_bd hob.1 hob.2.1 hsb.1 hsb.2
      obtain ⟨p0, p1, p2⟩ := SArea.elems (HA.out.below hbel) hlx
      have pc := Past.cell hcell BE.lt
      have hqb : 0 ≤ q ∧ q ≤ 600 * k + 600 := by omega
      have HQQ := Lib.hid hq_
      have HSET := Lib.hid hset
      have HTT := Lib.hid htt
      have HY := Lib.hid hy
      have HSV := Lib.hid hsv
      have HB := Lib.hid BE
      have hw1 := IntWalk.i64_in (q0 + xs[k].Minutes) (by omega)
      clear hset htt hsv hq hq_ hq0 BE hcell hcc htw
      go_wp2_with fail
      refine wp_region_past_tail 10 (by kernel_rfl) (by kernel_rfl) ?_
      simp only [List.take_succ_cons, List.take_zero, List.drop_succ_cons, List.drop_zero]
      repeat (go_big_quiet_step (fail))
      refine wpQuiet_nil ?_
      intro W1 hw'
      obtain ⟨⟨W_, hb1⟩, hw''⟩ := hw'
      subst hw''
      have B1 := HB.out.below hb1
      have hbel := Bel.trans hbel hb1
      have hcell : W1.cell? ⟨w.heap.size, cc, none⟩ = some (.int .i64 q0) := pc ⟨W1, hb1⟩
      have hfree : W1.frozen? ⟨w.heap.size, cc, none⟩ = false := B1.free cc
      have BS := B1.set cc (.int .i64 (q0 + xs[k].Minutes))
      rw [← HY.out, HSET.out] at BS
      have hbs := Bel.setCell hbel (p := ⟨w.heap.size, cc, none⟩) (Nat.le_refl _) (.int .i64 (q0 + xs[k].Minutes))
      rw [← HY.out] at hbs
      have HBS := Lib.hid BS
      have HES := Lib.hid hbs
      clear p0 p1 p2 pc B1 HB BS hbs
      go_wp2_with fail
      rw [← HY.out]
      generalize W1.setCell ⟨w.heap.size, cc, none⟩ (.int .i64 q) = W2 at HBS HES ⊢
      have hbel2 := HES.out
      obtain ⟨p0, p1, p2⟩ := SArea.elems (HA.out.below hbel2) hlx
      have hcell2 : W2.cell? ⟨w.heap.size, cc, none⟩ = some (.int .i64 q) := by
        have := (HBS.out).cell cc
        rw [etA_at hc3, HQQ.out] at this
        exact this
      have pc := Past.cell hcell2 (HBS.out).lt
      have hw2 := IntWalk.i64_in (xs[k].Chance * sv) (by omega)
      have hw3 := IntWalk.i64_in (tw + xs[k].Chance * sv) (by omega)
      clear hcell hfree hcell2 hw1 hy
      refine wp_region_past (by kernel_rfl) (by kernel_rfl) ?_
      repeat (go_big_quiet_step ((go_at_call 36; exact Past.callI _ HSV.out (survivalAt_any (s + q) _ (by omega) (by omega)))))
      refine wpQuiet_nil ?_
      intro W3 hw'
      obtain ⟨⟨W_, hb3⟩, hw''⟩ := hw'
      subst hw''
      have HBS := Lib.hid (HBS.out.below hb3)
      have hbel2 := Bel.trans hbel2 hb3
      obtain ⟨pr, hpr⟩ : ∃ pr, xs[k].Chance * sv = pr := ⟨_, rfl⟩
      rw [hpr] at hw2 hw3 hcs
      have HPR := Lib.hid hpr
      clear p0 p1 p2 pc hw2 HES hb3
      go_wp2
      go_roundw
      case rel => exact ⟨k + 1, _, by omega, by go_num, rfl, HTT.out, HBS.out, hbel2⟩
      case measure => simp [intOf]; omega
    · obtain rfl : k = ts.length := by omega
      have HTW := Lib.hid htw
      clear htw BE
      go_wp2
      go_ret
      exact ⟨ret_int HTW.out.symm, hbel⟩
theorem woL_bd {xs : List SArea} (hv : vlArea xs = true) {s : Int} (hs : 0 ≤ s) (os : List Int) : s ≤ (woL xs s os).1 ∧ (woL xs s os).1 ≤ s + 600 * os.length ∧ 0 ≤ (woL xs s os).2 ∧ (woL xs s os).2 ≤ 1000000 * os.length := by
  have key : ∀ (os : List Int) (a q : Int), s ≤ a → a ≤ (os.foldl (fun p o => (p.1 + minA xs o.toNat, p.2 + chA xs o.toNat * surv (p.1 + minA xs o.toNat))) (a, q)).1 ∧ (os.foldl (fun p o => (p.1 + minA xs o.toNat, p.2 + chA xs o.toNat * surv (p.1 + minA xs o.toNat))) (a, q)).1 ≤ a + 600 * os.length ∧ q ≤ (os.foldl (fun p o => (p.1 + minA xs o.toNat, p.2 + chA xs o.toNat * surv (p.1 + minA xs o.toNat))) (a, q)).2 ∧ (os.foldl (fun p o => (p.1 + minA xs o.toNat, p.2 + chA xs o.toNat * surv (p.1 + minA xs o.toNat))) (a, q)).2 ≤ q + 1000000 * os.length := by
    intro os
    induction os with
    | nil => intro a q _; simp
    | cons o r ih =>
      intro a q ha
      have hm : 0 ≤ minA xs o.toNat ∧ minA xs o.toNat ≤ 600 := by
        unfold minA; split
        · rename_i h; have := okArea_bd (vlArea_ok hv _ h); omega
        · omega
      have h1 := chA_bd hv o.toNat
      have h2 := surv_bd (m := a + minA xs o.toNat) (by omega)
      have h3 := cs_bd h1.1 h1.2 h2.1 h2.2
      have := ih (a + minA xs o.toNat) (q + chA xs o.toNat * surv (a + minA xs o.toNat)) (by omega)
      simp only [List.foldl_cons, List.length_cons]
      omega
  have := key os s 0 (Int.le_refl _)
  unfold woL
  omega
theorem l25Worth_any (xs : List SArea) (os : List Int) (b c : Nat) (D : Option Addr) (c2 : Nat) (s : Int) (w : World) (A : Arr SArea.cells 3 w b xs) (A2 : ArgS intc 1 w D os) (hv : vlArea xs = true) (hl : os.length ≤ 8) (ho : ∀ k (hk : k < os.length), ∃ i : Nat, i < xs.length ∧ os[k] = (i : Int)) (hs0 : 0 ≤ s) (hs1 : s ≤ 1000) :
    Calls Try.prog 31 #[.slice (some ⟨b, 0, none⟩) xs.length c, .slice D os.length c2, .int .i64 s] w fun e w' => e = .returned (.int .i64 (woL xs s os).2) ∧ Below w.heap.size w w' := by
  have HA := Lib.hid A
  have HA2 := Lib.hid A2
  have HV := Lib.hid hv
  have HO := Lib.hid ho
  have hlen := vlArea_len hv
  clear A A2 hv ho
  go_enter Try.func31, Try.ntmps31
  go_wp2_with fail
  go_loopw [7, 8, 9] (fun qv av i wr => ∃ (k : Nat) (a q : Int), k ≤ os.length ∧ i = .int .i64 k ∧ qv = .int .i64 q ∧ av = .int .i64 a ∧ woL xs s (os.take k) = (a, q) ∧ Below w.heap.size w wr) (fun _ _ i wr => os.length - (intOf i).toNat)
  case atStart => exact ⟨0, s, 0, by omega, rfl, rfl, rfl, rfl, Below.refl _ _⟩
  case round =>
    obtain ⟨k, a, q, hk, rfl, rfl, rfl, hwo, hbel⟩ := hrel
    have hwb := woL_bd HV.out hs0 (os.take k)
    have hlk : (os.take k).length = k := by rw [List.length_take]; omega
    rw [hwo, hlk] at hwb
    dsimp only at hwb
    clear hlk
    by_cases hlt : k < os.length
    · obtain ⟨g, o, rfl, hc⟩ := HA2.out (by omega)
      have h0 : wr.cell? ⟨g, o + k, none⟩ = some (.int .i64 os[k]) := by
        have := (hc.below hbel hc.1).2 k hlt 0 _ rfl
        rwa [Nat.mul_one, Nat.add_zero] at this
      obtain ⟨i, hi, hoi⟩ := HO.out k hlt
      rw [hoi] at h0
      have hob := okArea_bd (vlArea_ok HV.out i hi)
      obtain ⟨e0, e1, e2⟩ := SArea.elem (HA.out.below hbel) hi
      have hst := woL_snoc xs s (os.take k) os[k]
      rw [← List.take_succ_eq_append_getElem hlt, hwo, hoi, Int.toNat_natCast, minA_at hi, chA_at hi] at hst
      dsimp only at hst
      have hsb := surv_bd (m := a + xs[i].Minutes) (by omega)
      obtain ⟨sv, hsv⟩ : ∃ sv, surv (a + xs[i].Minutes) = sv := ⟨_, rfl⟩
      rw [hsv] at hst hsb
      have hcs := cs_bd hob.1 hob.2.1 hsb.1 hsb.2
      have HST := Lib.hid hst
      have HSV := Lib.hid hsv
      have hgl := hc.1
      have hgl2 := Nat.lt_of_lt_of_le hgl hbel.size
      clear hst hsv hoi hwo hc
      have q0 := Past.cell h0 hgl2
      obtain ⟨p0, p1, p2⟩ := SArea.elems (HA.out.below hbel) hi
      go_wp2_with fail
      have hw2 := IntWalk.i64_in (xs[i].Chance * sv) (by omega)
      have hw3 := IntWalk.i64_in (q + xs[i].Chance * sv) (by omega)
      clear h0 e0 e1 e2
      refine wp_region_past (by kernel_rfl) (by kernel_rfl) ?_
      repeat (go_big_quiet_step ((go_at_call 40; exact Past.callI _ HSV.out (l25Survival_any (a + xs[i].Minutes) _ (by omega) (by omega)))))
      refine wpQuiet_nil ?_
      intro W3 hw'
      obtain ⟨⟨W_, hb3⟩, hw''⟩ := hw'
      subst hw''
      have hbel2 := Bel.trans hbel hb3
      clear p0 p1 p2 q0 hw2 hw3 hb3
      go_wp2
      go_roundw
      case rel => exact ⟨k + 1, _, _, by omega, by go_num, rfl, rfl, HST.out, hbel2⟩
      case measure => simp [intOf]; omega
    · obtain rfl : k = os.length := by omega
      rw [List.take_length] at hwo
      have HWO := Lib.hid hwo
      clear hwo
      go_wp2
      go_ret
      exact ⟨ret_int (by rw [HWO.out]), hbel⟩
end Go.Proofs.Ytdkiahlpajgekaa
