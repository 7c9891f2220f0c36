/- Chapter 12: the least mass at the beginning. -/
import Derived.Test.YtcjalooaikfkbaaL12d
namespace Go.Proofs.Ytcjalooaikfkbaa
set_option linter.unusedSimpArgs false
set_option linter.unusedVariables false
open Go.RowKit
set_option maxHeartbeats 400000
set_option maxRecDepth 100000
theorem leastc_any (xs : List SPart) (b c : Nat) (s g t : Int) (g1 g2 g3 : Nat) (w : World) (A : Arr SPart.cells 4 w b xs) (hn : 0 < xs.length) (hv : vlPart xs = true) (hs0 : 0 ≤ s) (hs1 : s ≤ 1000) (hg : g ≤ 100000000) (ht0 : 0 ≤ t) (ht1 : t ≤ 100000000)
    (k1 : w.cell? ⟨g1, 0, none⟩ = some (.slice (some ⟨b, 0, none⟩) xs.length c)) (k2 : w.cell? ⟨g2, 0, none⟩ = some (.int .i64 s)) (k3 : w.cell? ⟨g3, 0, none⟩ = some (.int .i64 g)) :
    Calls Try.prog 58 #[.int .i64 t, .pointer (some ⟨g1, 0, none⟩), .pointer (some ⟨g2, 0, none⟩), .pointer (some ⟨g3, 0, none⟩)] w fun e w' => e = .returned (.bool (reach xs s g t)) ∧ Below w.heap.size w w' := by
  have HA := Lib.hid A
  have hlen := vlPart_len hv
  have hga := grow_all hv hs0 hs1 ht0 ht1
  have HV := Lib.hid hv
  have hl3 := lt_of_cell k3
  have hglp : 0 < (growL xs s t xs.length).length := by rw [growL_len]; exact hn
  have HGP := Lib.hid hglp
  have hmb := mass_bd hv hs0 hs1 ht0 xs.length
  clear A hv hglp
  by_cases hmax : massL xs s t xs.length ≤ 100000000
  · rw [decide_eq_true hmax] at hga
    have HGA := Lib.hid hga
    clear hga
    go_enter Try.func58, Try.ntmps58
    go_wp2_with fail
    refine (growth_any xs b c t s _ HA.out HV.out ht0 ht1 hs0 hs1).mono ?_
    rintro e w2 ⟨⟨v, rfl, R⟩, hb2⟩
    obtain ⟨D, d, rfl, hS⟩ := R.form (fun _ => rfl)
    have HS := Lib.hid hS
    obtain ⟨b2, o2, rfl, hc⟩ := hS HGP.out
    have d0 := growC hc (show xs.length - 1 < xs.length by omega)
    rw [show xs.length - 1 + 1 = xs.length by omega] at d0
    have q0 := Past.cell d0 hc.1
    have k3' : w2.cell? ⟨g3, 0, none⟩ = some (.int .i64 g) := (hb2.cell (p := ⟨g3, 0, none⟩) hl3).trans k3
    have q3 := Past.cell k3' (Nat.lt_of_lt_of_le hl3 hb2.size)
    have hz1 : (1 : Int) ≤ (xs.length : Int) := by omega
    have hz2 : IntKind.i64.wrap ((xs.length : Int) - 1) = (xs.length : Int) - 1 := IntWalk.i64_in _ (by omega)
    have hz3 : ((xs.length : Int) - 1).toNat = xs.length - 1 := by omega
    simp only [growL_len]
    have hcall : Hid (∀ y : Past w2, Calls Try.prog 53 #[.slice (some ⟨b2, o2, none⟩) xs.length d, .int .i64 0, .int .i64 100000000] y.w fun e w' => e = .returned (.bool (allIn 0 100000000 (growL xs s t xs.length))) ∧ Below y.w.heap.size y.w w') := fun y => by
      have h := allWithinA_any (growL xs s t xs.length) (some ⟨b2, o2, none⟩) d 0 100000000 y.w (HS.out.below y.h) (by rw [growL_len]; omega)
      rw [growL_len] at h
      exact h
    obtain ⟨p, hp⟩ : ∃ p, massL xs s t xs.length = p := ⟨_, rfl⟩
    rw [hp] at q0
    have HP := Lib.hid hp
    clear hc d0 k3' R hS hp k1 k2 k3 hmb hmax
    go_wp2_with fail
    refine wp_region_past (by kernel_rfl) (by kernel_rfl) ?_
    repeat (go_big_quiet_step ((go_at_call 53; exact Past.callB _ HGA.out (hcall.out _))))
    refine wpQuiet_nil ?_
    intro W1 hw'
    obtain ⟨⟨W_, hbx⟩, hw''⟩ := hw'
    subst hw''
    go_wp2
    go_ret
    exact ⟨ret_bool (by rw [reach, HP.out]), Bel.trans hb2 hbx⟩
  · rw [decide_eq_false hmax] at hga
    have HGA := Lib.hid hga
    have hr : reach xs s g t = true := decide_eq_true (by omega)
    have HR := Lib.hid hr
    clear hga hmax hr
    go_enter Try.func58, Try.ntmps58
    go_wp2_with fail
    refine (growth_any xs b c t s _ HA.out HV.out ht0 ht1 hs0 hs1).mono ?_
    rintro e w2 ⟨⟨v, rfl, R⟩, hb2⟩
    obtain ⟨D, d, rfl, hS⟩ := R.form (fun _ => rfl)
    have HS := Lib.hid hS
    simp only [growL_len]
    have hcall : Hid (∀ y : Past w2, Calls Try.prog 53 #[.slice D xs.length d, .int .i64 0, .int .i64 100000000] y.w fun e w' => e = .returned (.bool (allIn 0 100000000 (growL xs s t xs.length))) ∧ Below y.w.heap.size y.w w') := fun y => by
      have h := allWithinA_any (growL xs s t xs.length) D d 0 100000000 y.w (HS.out.below y.h) (by rw [growL_len]; omega)
      rw [growL_len] at h
      exact h
    clear R hS k1 k2 k3 hmb
    go_wp2_with fail
    refine wp_region_past (by kernel_rfl) (by kernel_rfl) ?_
    repeat (go_big_quiet_step ((go_at_call 53; exact Past.callB _ HGA.out (hcall.out _))))
    refine wpQuiet_nil ?_
    intro W1 hw'
    obtain ⟨⟨W_, hbx⟩, hw''⟩ := hw'
    subst hw''
    go_wp2
    go_ret
    exact ⟨ret_bool HR.out.symm, Bel.trans hb2 hbx⟩
theorem firstc_any (i lo : Int) (bb : Array Value) (h1 h2 : Nat) (w : World) (q : Bool) (c1 : w.cell? ⟨h1, 0, none⟩ = some (.func (.func 58) #[] bb)) (c2 : w.cell? ⟨h2, 0, none⟩ = some (.int .i64 lo)) (hb : -1000000000 ≤ lo + i ∧ lo + i ≤ 1000000000)
    (HQ : Hid (Calls Try.prog 58 (#[.int .i64 (lo + i)] ++ bb) w fun e w' => e = .returned (.bool q) ∧ Below w.heap.size w w')) :
    Calls Try.prog 89 #[.int .i64 i, .pointer (some ⟨h1, 0, none⟩), .pointer (some ⟨h2, 0, none⟩)] w fun e w' => e = .returned (.bool q) ∧ Below w.heap.size w w' := by
  obtain ⟨hb1, hb2⟩ := hb
  go_enter Try.func89, Try.ntmps89
  go_wp2_with fail
  refine HQ.out.mono ?_
  rintro e w2 ⟨rfl, hb3⟩
  go_wp2
  go_ret
  exact ⟨rfl, hb3⟩
def srch (P : Nat → Bool) (n : Nat) : Nat := (fst P n).getD n
theorem search_any (n : Nat) (P : Nat → Bool) (bb : Array Value) (w : World) (hn : n ≤ 1000000000) (hm : ∀ i j, i ≤ j → P i = true → P j = true)
    (HQ : Hid (∀ i : Nat, i < n → ∀ W', Below w.heap.size w W' → Calls Try.prog 89 (#[.int .i64 i] ++ bb) W' fun e w' => e = .returned (.bool (P i)) ∧ Below W'.heap.size W' w')) :
    Calls Try.prog 88 #[.int .i64 n, .func (.func 89) #[] bb] w fun e w' => e = .returned (.int .i64 (srch P n)) ∧ Below w.heap.size w w' := by
  have HM := Lib.hid hm
  clear hm
  go_enter Try.func88, Try.ntmps88
  go_wp2_with fail
  go_loopw [5, 6] (fun i j wr => ∃ a b : Nat, a ≤ b ∧ b ≤ n ∧ i = .int .i64 a ∧ j = .int .i64 b ∧ (∀ m, m < a → P m = false) ∧ (b < n → P b = true) ∧ Below w.heap.size w wr) (fun i j wr => (intOf j - intOf i).toNat)
  case atStart => exact ⟨0, n, by omega, by omega, rfl, rfl, fun m hm => absurd hm (Nat.not_lt_zero m), by omega, Below.refl _ _⟩
  case round =>
    obtain ⟨a, b, hab, hbn, rfl, rfl, hlo, hhi, hbel⟩ := hrel
    have HL := Lib.hid hlo
    have HH := Lib.hid hhi
    clear hlo hhi
    by_cases hlt : a < b
    · have hh : (a + b) / 2 < n := by omega
      have hmid : ((a : Int) + (b : Int)) / 2 = (((a + b) / 2 : Nat) : Int) := by omega
      obtain ⟨m, hm⟩ : ∃ m, (a + b) / 2 = m := ⟨_, rfl⟩
      have hma : a ≤ m := by omega
      have hmb : m < b := by omega
      go_wp2_with fail
      rw [hm] at hh
      clear hmid hm
      cases hq : P m
      · have HQM := Lib.hid hq
        clear hq
        refine (Calls.boolIs HQM.out (HQ.out m hh _ hbel)).mono ?_
        rintro e w2 ⟨rfl, hb2⟩
        go_wp2
        go_roundw
        case rel => exact ⟨m + 1, b, by omega, hbn, by go_num, rfl, fun j hj => (by
          cases hP : P j
          · rfl
          · have := HM.out j m (by omega) hP
            rw [HQM.out] at this; cases this), HH.out, Bel.trans hbel hb2⟩
        case measure => simp [intOf]; omega
      · have HQM := Lib.hid hq
        clear hq
        refine (Calls.boolIs HQM.out (HQ.out m hh _ hbel)).mono ?_
        rintro e w2 ⟨rfl, hb2⟩
        go_wp2
        go_roundw
        case rel => exact ⟨a, m, hma, by omega, rfl, rfl, HL.out, fun _ => HQM.out, Bel.trans hbel hb2⟩
        case measure => simp [intOf]; omega
    · obtain rfl : a = b := by omega
      have hs : srch P n = a := by
        by_cases han : a < n
        · rw [srch, fst_some han HL.out (HH.out han)]; rfl
        · obtain rfl : a = n := by omega
          rw [srch, fst_none HL.out]; rfl
      have HS := Lib.hid hs
      clear hs
      go_wp2
      go_ret
      exact ⟨ret_int (by rw [HS.out]), hbel⟩
theorem firstIn_any (n : Nat) (P : Nat → Bool) (bb : Array Value) (w : World) (hn : n ≤ 100000000) (hm : ∀ i j, i ≤ j → P i = true → P j = true)
    (HQ : Hid (∀ i : Nat, i ≤ n → ∀ W', Below w.heap.size w W' → Calls Try.prog 58 (#[.int .i64 i] ++ bb) W' fun e w' => e = .returned (.bool (P i)) ∧ Below W'.heap.size W' w')) :
    Calls Try.prog 57 #[.int .i64 0, .int .i64 n, .func (.func 58) #[] bb] w fun e w' => e = .returned (.tuple #[.int .i64 (srch P (n + 1) : Nat), .bool (decide (srch P (n + 1) < n + 1))]) ∧ Below w.heap.size w w' := by
  have HM := Lib.hid hm
  clear hm
  have hsr : srch P (n + 1) ≤ n + 1 := by
    unfold srch
    cases hf : fst P (n + 1) with
    | none => simp
    | some k =>
      unfold fst at hf
      have := List.mem_range.1 (List.mem_of_find?_eq_some hf)
      simp; omega
  go_enter Try.func57, Try.ntmps57
  go_wp2_with fail
  refine calls_box_out2 ?_
  intro W hbw B1 B2
  have hs := search_any (n + 1) P #[.pointer (some ⟨w.heap.size + 1, 0, none⟩), .pointer (some ⟨w.heap.size, 0, none⟩)] W (by omega) HM.out (fun i hi W' hW => firstc_any (i : Int) 0 bb (w.heap.size + 1) w.heap.size W' (P i) ((B2.below hW).cell 0) ((B1.below hW).cell 0) (by omega) (by
    have h := HQ.out i (by omega) W' (hbw.trans (hW.mono hbw.size))
    rw [show (0 : Int) + (i : Int) = (i : Int) by omega]
    exact h))
  rw [show ((n + 1 : Nat) : Int) = (n : Int) + 1 by omega] at hs
  obtain ⟨k, hk⟩ : ∃ k, srch P (n + 1) = k := ⟨_, rfl⟩
  rw [hk] at hs hsr
  have HK := Lib.hid hk
  have HS := Lib.hid hs
  clear hk hs
  refine HS.out.mono ?_
  rintro e w2 ⟨rfl, hb2⟩
  have c0 : w2.cell? ⟨w.heap.size, 0, none⟩ = some (.int .i64 0) := (B1.below hb2).cell 0
  have hbt := Bel.trans hbw hb2
  clear B1 B2 hb2
  by_cases hkn : k < n + 1
  · have hd : decide ((k : Int) < (n : Int) + 1) = true := decide_eq_true (by omega)
    go_wp2
    go_ret2
    exact ⟨by rw [HK.out, decide_eq_true hkn]; rfl, hbt⟩
  · have hd : decide ((k : Int) < (n : Int) + 1) = false := decide_eq_false (by omega)
    go_wp2
    go_ret2
    exact ⟨by rw [HK.out, decide_eq_false (show ¬ k < n + 1 by omega)]; rfl, hbt⟩
theorem orNotFoundP_any (n : Int) (w : World) : Calls Try.prog 56 #[.int .i64 n, .bool true] w fun e w' => e = .returned (.tuple #[.int .i64 n, .int .i64 0]) ∧ w = w' := by
  go_enter Try.func56, Try.ntmps56
  go_wp2
  go_ret2
  exact ⟨rfl, rfl⟩
theorem LeastStart_any (xs : List SPart) (b c : Nat) (s g : Int) (w : World) (A : Arr SPart.cells 4 w b xs) (hn : xs.length ≤ 1048576) :
    Calls Try.prog 19 #[.slice (some ⟨b, 0, none⟩) xs.length c, .int .i64 s, .int .i64 g] w fun e w' => e = .returned (.tuple #[.int .i64 (lsRes xs s g).1, .int .i64 (lsRes xs s g).2]) ∧ Below w.heap.size w w' := by
  have HA := Lib.hid A
  have hbl := A.1
  clear A
  cases hv : vlPart xs
  · have hgc : gcode xs g s = 1 := by simp [gcode, hv]
    have HV := Lib.hid hv
    have HGC := Lib.hid hgc
    clear hv hgc
    go_enter Try.func19, Try.ntmps19
    go_wp2_with fail
    refine calls_box_out3 ?_
    intro W hbw B1 B2 B3
    refine (Calls.boolIs HV.out (ValidParts_any xs b c _ (HA.out.below hbw) hn)).mono ?_
    rintro e w1 ⟨rfl, hb1⟩
    clear B1 B2 B3
    go_wp2
    go_ret2
    exact ⟨by rw [lsRes_c HGC.out (by omega)]; rfl, Bel.trans hbw hb1⟩
  have HV := Lib.hid hv
  have hlen := vlPart_len hv
  cases hy : (inr 0 1000 s && inr 0 100000000 g)
  · have hgc : gcode xs g s = 2 := by rw [gcode, if_pos hv, Bool.and_comm, hy]; rfl
    have HGC := Lib.hid hgc
    have hy' : inr 0 1000 s = false ∨ (inr 0 1000 s = true ∧ inr 0 100000000 g = false) := by
      cases h1 : inr 0 1000 s
      · exact Or.inl rfl
      · rw [h1, Bool.true_and] at hy; exact Or.inr ⟨rfl, hy⟩
    clear hv hgc hy
    rcases hy' with h1 | ⟨h1, h2⟩
    · have H1 := Lib.hid h1
      clear h1
      go_enter Try.func19, Try.ntmps19
      go_wp2_with fail
      refine calls_box_out3 ?_
      intro W hbw B1 B2 B3
      refine (Calls.boolIs HV.out (ValidParts_any xs b c _ (HA.out.below hbw) hn)).mono ?_
      rintro e w1 ⟨rfl, hb1⟩
      have c2 : w1.cell? ⟨w.heap.size + 1, 0, none⟩ = some (.int .i64 s) := (B2.below hb1).cell 0
      have c3 : w1.cell? ⟨w.heap.size + 2, 0, none⟩ = some (.int .i64 g) := (B3.below hb1).cell 0
      clear B1 B2 B3
      go_wp2_with fail
      refine (Calls.boolIs H1.out (within_any _ _ _ _)).mono ?_
      rintro e w' ⟨rfl, rfl⟩
      go_wp2
      go_ret2
      exact ⟨by rw [lsRes_c HGC.out (by omega)]; rfl, Bel.trans hbw hb1⟩
    · have H1 := Lib.hid h1
      have H2 := Lib.hid h2
      clear h1 h2
      go_enter Try.func19, Try.ntmps19
      go_wp2_with fail
      refine calls_box_out3 ?_
      intro W hbw B1 B2 B3
      refine (Calls.boolIs HV.out (ValidParts_any xs b c _ (HA.out.below hbw) hn)).mono ?_
      rintro e w1 ⟨rfl, hb1⟩
      have c2 : w1.cell? ⟨w.heap.size + 1, 0, none⟩ = some (.int .i64 s) := (B2.below hb1).cell 0
      have c3 : w1.cell? ⟨w.heap.size + 2, 0, none⟩ = some (.int .i64 g) := (B3.below hb1).cell 0
      clear B1 B2 B3
      go_wp2_with fail
      refine (Calls.boolIs H1.out (within_any _ _ _ _)).mono ?_
      rintro e w' ⟨rfl, rfl⟩
      go_wp2_with fail
      refine (Calls.boolIs H2.out (tonnesOk_any _ _)).mono ?_
      rintro e w' ⟨rfl, rfl⟩
      go_wp2
      go_ret2
      exact ⟨by rw [lsRes_c HGC.out (by omega)]; rfl, Bel.trans hbw hb1⟩
  rw [Bool.and_eq_true] at hy
  obtain ⟨h1, h2⟩ := hy
  obtain ⟨hs0, hs1⟩ := inr_bd' h1
  obtain ⟨hg0, hg1⟩ := inr_bd' h2
  have hgc : gcode xs g s = 0 := by rw [gcode, if_pos hv, h1, h2]; rfl
  have H1 := Lib.hid h1
  have H2 := Lib.hid h2
  have HGC := Lib.hid hgc
  have hmono : ∀ i j : Nat, i ≤ j → reach xs s g (i : Int) = true → reach xs s g (j : Int) = true := fun i j hij h => reach_up HV.out hs0 hs1 (by omega) (by omega) h
  have HMO := Lib.hid hmono
  have htop := reach_top HV.out hs0 hs1 hg1
  have hsrch : srch (fun i : Nat => reach xs s g (i : Int)) (100000000 + 1) = leastS xs s g ∧ leastS xs s g < 100000000 + 1 := by
    unfold srch leastS
    cases hf : fst (fun k : Nat => reach xs s g (k : Int)) 100000001 with
    | none =>
      unfold fst at hf
      rw [List.find?_eq_none] at hf
      exact absurd htop (hf 100000000 (List.mem_range.2 (by omega)))
    | some k =>
      refine ⟨rfl, ?_⟩
      unfold fst at hf
      have := List.mem_range.1 (List.mem_of_find?_eq_some hf)
      simpa using this
  obtain ⟨L, hL⟩ : ∃ L, leastS xs s g = L := ⟨_, rfl⟩
  rw [hL] at hsrch
  have HLS := Lib.hid hL
  have HSR := Lib.hid hsrch.1
  have hL2 := hsrch.2
  clear hv h1 h2 hgc hmono htop hL hsrch
  by_cases hz : xs.length = 0
  · have hz1 : ((xs.length : Int) == 0) = true := beq_iff_eq.mpr (by omega)
    have HZ := Lib.hid hz
    clear hz
    go_enter Try.func19, Try.ntmps19
    go_wp2_with fail
    refine calls_box_out3 ?_
    intro W hbw B1 B2 B3
    refine (Calls.boolIs HV.out (ValidParts_any xs b c _ (HA.out.below hbw) hn)).mono ?_
    rintro e w1 ⟨rfl, hb1⟩
    have c1 : w1.cell? ⟨w.heap.size, 0, none⟩ = some (.slice (some ⟨b, 0, none⟩) xs.length c) := (B1.below hb1).cell 0
    have c2 : w1.cell? ⟨w.heap.size + 1, 0, none⟩ = some (.int .i64 s) := (B2.below hb1).cell 0
    have c3 : w1.cell? ⟨w.heap.size + 2, 0, none⟩ = some (.int .i64 g) := (B3.below hb1).cell 0
    clear B1 B2 B3
    go_wp2_with (first | (go_at_call 43; refine (Calls.boolIs H1.out (within_any _ _ _ _)).mono ?_; rintro e w' ⟨rfl, rfl⟩) | (go_at_call 55; refine (Calls.boolIs H2.out (tonnesOk_any _ _)).mono ?_; rintro e w' ⟨rfl, rfl⟩))
    go_ret2
    exact ⟨by rw [lsRes_g HGC.out HZ.out]; rfl, Bel.trans hbw hb1⟩
  · have hz1 : ((xs.length : Int) == 0) = false := beq_eq_false_iff_ne.mpr (by omega)
    have HZ := Lib.hid hz
    have hzp : 0 < xs.length := by omega
    clear hz
    go_enter Try.func19, Try.ntmps19
    go_wp2_with fail
    refine calls_box_out3 ?_
    intro W hbw B1 B2 B3
    refine (Calls.boolIs HV.out (ValidParts_any xs b c _ (HA.out.below hbw) hn)).mono ?_
    rintro e w1 ⟨rfl, hb1⟩
    have hbt := Bel.trans hbw hb1
    have D1 := B1.below hb1
    have D2 := B2.below hb1
    have D3 := B3.below hb1
    have c1 : w1.cell? ⟨w.heap.size, 0, none⟩ = some (.slice (some ⟨b, 0, none⟩) xs.length c) := D1.cell 0
    have c2 : w1.cell? ⟨w.heap.size + 1, 0, none⟩ = some (.int .i64 s) := D2.cell 0
    have c3 : w1.cell? ⟨w.heap.size + 2, 0, none⟩ = some (.int .i64 g) := D3.cell 0
    have hfi := firstIn_any 100000000 (fun i : Nat => reach xs s g (i : Int)) #[.pointer (some ⟨w.heap.size, 0, none⟩), .pointer (some ⟨w.heap.size + 1, 0, none⟩), .pointer (some ⟨w.heap.size + 2, 0, none⟩)] w1 (by omega) HMO.out (fun i hi W' hW => leastc_any xs b c s g (i : Int) w.heap.size (w.heap.size + 1) (w.heap.size + 2) W' ((HA.out.below hbt).below hW) hzp HV.out hs0 hs1 hg1 (by omega) (by omega) ((D1.below hW).cell 0) ((D2.below hW).cell 0) ((D3.below hW).cell 0))
    rw [HSR.out, decide_eq_true hL2] at hfi
    have HFI := Lib.hid hfi
    clear B1 B2 B3 D1 D2 D3 hfi
    go_wp2_with (first | (go_at_call 43; refine (Calls.boolIs H1.out (within_any _ _ _ _)).mono ?_; rintro e w' ⟨rfl, rfl⟩) | (go_at_call 55; refine (Calls.boolIs H2.out (tonnesOk_any _ _)).mono ?_; rintro e w' ⟨rfl, rfl⟩) | (go_at_call 57; refine HFI.out.mono ?_; rintro e w2 ⟨rfl, hb2⟩) | (go_at_call 56; refine (orNotFoundP_any _ _).mono ?_; rintro e w' ⟨rfl, rfl⟩))
    go_ret2
    exact ⟨by rw [lsRes_0 HGC.out HZ.out HLS.out]; rfl, Bel.trans hbt hb2⟩
end Go.Proofs.Ytcjalooaikfkbaa
