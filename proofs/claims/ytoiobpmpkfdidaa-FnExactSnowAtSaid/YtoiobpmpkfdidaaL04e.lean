/- Chapter 4: the height of snow at an hour: the walks. -/
import Derived.Test.YtoiobpmpkfdidaaL04c
namespace Go.Proofs.Ytoiobpmpkfdidaa
set_option linter.unusedSimpArgs false
set_option linter.unusedVariables false
open Go.RowKit
set_option maxHeartbeats 400000
set_option maxRecDepth 100000
def lineV (a b : SObserved) (h : Int) : Int := a.Snow + rdiv ((b.Snow - a.Snow) * (h - a.Hour)) (b.Hour - a.Hour)
theorem rdiv_abs {a b M : Int} (hb : 0 < b) (h1 : -M ≤ a) (h2 : a ≤ M) (hM : 0 ≤ M) : -(M + 1) ≤ rdiv a b ∧ rdiv a b ≤ M + 1 := by
  have key : ∀ x : Int, 0 ≤ x → x ≤ M → 0 ≤ (2 * x + b) / (2 * b) ∧ (2 * x + b) / (2 * b) ≤ M + 1 := fun x hx0 hx1 => by
    refine ⟨Int.ediv_nonneg (by omega) (by omega), ?_⟩
    have : (2 * x + b) / (2 * b) < M + 2 := by
      apply Int.ediv_lt_of_lt_mul (by omega)
      have e1 : (M + 2) * (2 * b) = 2 * ((M + 2) * b) := by rw [Int.mul_left_comm]
      have e2 : (M + 2) * b = (M + 2) + (M + 2) * (b - 1) := by rw [Int.mul_sub, Int.mul_one]; omega
      have e3 : 0 ≤ (M + 2) * (b - 1) := Int.mul_nonneg (by omega) (by omega)
      have e4 : (M + 2) * (b - 1) ≥ (b - 1) := by
        have := Int.mul_le_mul_of_nonneg_right (show 1 ≤ M + 2 by omega) (show 0 ≤ b - 1 by omega)
        omega
      omega
    omega
  rw [rdiv]
  split
  · have := key (-a) (by omega) (by omega)
    rw [show 2 * -a + b = b - 2 * a by omega] at this
    omega
  · have := key a (by omega) (by omega)
    omega
theorem prod_bd {p q : Int} (h1 : -2000 ≤ p) (h2 : p ≤ 2000) (h3 : 0 ≤ q) (h4 : q ≤ 100000) : -200000000 ≤ p * q ∧ p * q ≤ 200000000 := by
  have a1 := Int.mul_le_mul_of_nonneg_right h1 h3
  have a2 := Int.mul_le_mul_of_nonneg_right h2 h3
  omega
theorem blend_any (a b : SObserved) (h : Int) (w : World) (ha : okObserved a = true) (hb : okObserved b = true) (h1 : a.Hour < h) (h2 : h < b.Hour) :
    Calls Try.prog 41 #[.int .i64 a.Hour, .int .i64 a.Snow, .int .i64 b.Hour, .int .i64 b.Snow, .int .i64 h] w fun e w' => e = .returned (.int .i64 (lineV a b h)) ∧ Below w.heap.size w w' := by
  have hba := okObserved_bd ha
  have hbb := okObserved_bd hb
  obtain ⟨m0, m1⟩ := prod_bd (p := b.Snow - a.Snow) (q := h - a.Hour) (by omega) (by omega) (by omega) (by omega)
  have hrd := rdiv_abs (a := (b.Snow - a.Snow) * (h - a.Hour)) (b := b.Hour - a.Hour) (M := 200000000) (by omega) (by omega) (by omega) (by omega)
  obtain ⟨q, hq⟩ : ∃ q, rdiv ((b.Snow - a.Snow) * (h - a.Hour)) (b.Hour - a.Hour) = q := ⟨_, rfl⟩
  rw [hq] at hrd
  have HQ := Lib.hid hq
  clear ha hb hq
  go_enter Try.func41, Try.ntmps41
  go_wp2_with fail
  refine (divRound_any _ _ _ (by omega) (by omega) (by omega) (by omega)).mono ?_
  rintro e w' ⟨rfl, nn, rfl⟩
  rw [HQ.out]
  go_wp2
  go_ret
  exact ⟨ret_int (by rw [lineV, HQ.out]), (by repeat (first | (with_reducible assumption) | (with_reducible exact Below.refl _ _) | (with_reducible refine Bel.alloc ?_ _) | (with_reducible refine Below.drew ?_) | (with_reducible refine Bel.drewN ?_ _) | (with_reducible refine Bel.setCell ?_ (by (try simp) <;> omega) _) | (with_reducible refine Bel.trans ?_ (by assumption))))⟩
theorem l01Line_any (a b : SObserved) (h : Int) (w : World) (ha : okObserved a = true) (hb : okObserved b = true) (h1 : a.Hour < h) (h2 : h < b.Hour) :
    Calls Try.prog 39 #[.int .i64 a.Hour, .int .i64 a.Snow, .int .i64 b.Hour, .int .i64 b.Snow, .int .i64 h] w fun e w' => e = .returned (.int .i64 (lineV a b h)) ∧ Below w.heap.size w w' := by
  have hba := okObserved_bd ha
  have hbb := okObserved_bd hb
  obtain ⟨m0, m1⟩ := prod_bd (p := b.Snow - a.Snow) (q := h - a.Hour) (by omega) (by omega) (by omega) (by omega)
  have hrd := rdiv_abs (a := (b.Snow - a.Snow) * (h - a.Hour)) (b := b.Hour - a.Hour) (M := 200000000) (by omega) (by omega) (by omega) (by omega)
  obtain ⟨q, hq⟩ : ∃ q, rdiv ((b.Snow - a.Snow) * (h - a.Hour)) (b.Hour - a.Hour) = q := ⟨_, rfl⟩
  rw [hq] at hrd
  have HQ := Lib.hid hq
  clear ha hb hq
  go_enter Try.func39, Try.ntmps39
  go_wp2_with fail
  refine (l01Div_any _ _ _ (by omega) (by omega) (by omega) (by omega)).mono ?_
  rintro e w' ⟨rfl, rfl⟩
  rw [HQ.out]
  go_wp2
  go_ret
  exact ⟨ret_int (by rw [lineV, HQ.out]), (by repeat (first | (with_reducible assumption) | (with_reducible exact Below.refl _ _) | (with_reducible refine Bel.alloc ?_ _) | (with_reducible refine Below.drew ?_) | (with_reducible refine Bel.drewN ?_ _) | (with_reducible refine Bel.setCell ?_ (by (try simp) <;> omega) _) | (with_reducible refine Bel.trans ?_ (by assumption))))⟩
theorem uniqH {xs : List SObserved} {h : Int} {p : Nat} (hp : posL xs h = p) (hlt : p < xs.length) (ha : hasL xs h = false) : xs[p].Hour ≠ h := by
  rw [has_at hp hlt] at ha; simpa using ha
theorem hasPos {xs : List SObserved} (hv : vlObserved xs = true) {h : Int} {j : Nat} (hj : j < xs.length) (hh : xs[j].Hour = h) : posL xs h = j ∧ hasL xs h = true := by
  obtain ⟨a, b, c⟩ := pos_spec hv h
  have h1 : ¬ j < posL xs h := fun hl => by have := b j hj hl; omega
  have h2 : ¬ posL xs h < j := fun hl => by
    have := c (posL xs h) (by omega) (Nat.le_refl _)
    have := hours_lt hv (i := posL xs h) (j := j) hl hj
    omega
  have e : posL xs h = j := by omega
  exact ⟨e, by rw [has_at e hj, hh]; simp⟩
def snowOf (xs : List SObserved) (i : Nat) : Int := match xs[i]? with
  | some x => x.Snow
  | none => 0
theorem snowOf_at {xs : List SObserved} {i : Nat} (h : i < xs.length) : snowOf xs i = xs[i].Snow := by rw [snowOf, List.getElem?_eq_getElem h]
def lineOf (xs : List SObserved) (i : Nat) (h : Int) : Int := match xs[i - 1]?, xs[i]? with
  | some a, some b => lineV a b h
  | _, _ => 0
theorem lineOf_at {xs : List SObserved} {i : Nat} {h : Int} (hi : i < xs.length) : lineOf xs i h = lineV (xs[i-1]'(by omega)) xs[i] h := by
  rw [lineOf, List.getElem?_eq_getElem hi, List.getElem?_eq_getElem (show i - 1 < xs.length by omega)]
def saRes (xs : List SObserved) (h : Int) : Int × Int := if vlObserved xs then (if inr 0 100000 h then (if hasL xs h then (snowOf xs (posL xs h), 0) else if posL xs h = 0 ∨ posL xs h = xs.length then (0, 3) else (lineOf xs (posL xs h) h, 0)) else (0, 2)) else (0, 1)
theorem saRes_1 {xs : List SObserved} {h : Int} (hv : vlObserved xs = false) : saRes xs h = (0, 1) := by rw [saRes, if_neg (by rw [hv]; simp)]
theorem saRes_2 {xs : List SObserved} {h : Int} (hv : vlObserved xs = true) (hh : inr 0 100000 h = false) : saRes xs h = (0, 2) := by rw [saRes, if_pos hv, if_neg (by rw [hh]; simp)]
theorem saRes_has {xs : List SObserved} {h : Int} {p : Nat} (hv : vlObserved xs = true) (hh : inr 0 100000 h = true) (ha : hasL xs h = true) (hp : posL xs h = p) (hlt : p < xs.length) : saRes xs h = (xs[p].Snow, 0) := by rw [saRes, if_pos hv, if_pos hh, if_pos ha, hp, snowOf_at hlt]
theorem saRes_3 {xs : List SObserved} {h : Int} {p : Nat} (hv : vlObserved xs = true) (hh : inr 0 100000 h = true) (ha : hasL xs h = false) (hp : posL xs h = p) (hz : p = 0 ∨ p = xs.length) : saRes xs h = (0, 3) := by rw [saRes, if_pos hv, if_pos hh, if_neg (by rw [ha]; simp), hp, if_pos hz]
theorem saRes_line {xs : List SObserved} {h : Int} {p : Nat} (hv : vlObserved xs = true) (hh : inr 0 100000 h = true) (ha : hasL xs h = false) (hp : posL xs h = p) (h0 : 0 < p) (hlt : p < xs.length) : saRes xs h = (lineV (xs[p-1]) xs[p] h, 0) := by rw [saRes, if_pos hv, if_pos hh, if_neg (by rw [ha]; simp), hp, if_neg (by omega), lineOf_at hlt]
theorem SnowAt_any (xs : List SObserved) (b c : Nat) (h : Int) (w : World) (A : Arr SObserved.cells 4 w b xs) (hn : xs.length ≤ 1048576) :
    Calls Try.prog 23 #[.slice (some ⟨b, 0, none⟩) xs.length c, .int .i64 h] w fun e w' => e = .returned (.tuple #[.int .i64 (saRes xs h).1, .int .i64 (saRes xs h).2]) ∧ Below w.heap.size w w' := by
  have HA := Lib.hid A
  clear A
  go_enter Try.func23, Try.ntmps23
  go_wp2_with (first | (go_at_call 29; refine (ValidObserved_any xs b c _ HA.out hn).mono ?_; rintro e w1 ⟨rfl, hb1⟩) | (go_at_call 40; refine (hourOk_any _ _).mono ?_; rintro e w' ⟨rfl, rfl⟩))
  all_goals try (go_ret2; first | (rw [saRes_1 (by first | assumption | exact not_f (by assumption) | exact not_t (by assumption))]; exact ⟨rfl, (by repeat (first | (with_reducible assumption) | (with_reducible exact Below.refl _ _) | (with_reducible refine Bel.alloc ?_ _) | (with_reducible refine Below.drew ?_) | (with_reducible refine Bel.drewN ?_ _) | (with_reducible refine Bel.setCell ?_ (by (try simp) <;> omega) _) | (with_reducible refine Bel.trans ?_ (by assumption))))⟩) | (rw [saRes_2 (by first | assumption | exact not_f (by assumption) | exact not_t (by assumption)) (by first | assumption | exact not_f (by assumption) | exact not_t (by assumption))]; exact ⟨rfl, (by repeat (first | (with_reducible assumption) | (with_reducible exact Below.refl _ _) | (with_reducible refine Bel.alloc ?_ _) | (with_reducible refine Below.drew ?_) | (with_reducible refine Bel.drewN ?_ _) | (with_reducible refine Bel.setCell ?_ (by (try simp) <;> omega) _) | (with_reducible refine Bel.trans ?_ (by assumption))))⟩))
  have hv : vlObserved xs = true := (by first | assumption | exact not_f (by assumption) | exact not_t (by assumption))
  have hh : inr 0 100000 h = true := (by first | assumption | exact not_f (by assumption) | exact not_t (by assumption))
  have hlen := vlObserved_len hv
  obtain ⟨hh0, hh1⟩ := inr_bd' hh
  simp only [hv, hh, Bool.not_true]
  have HV := Lib.hid hv
  have HH := Lib.hid hh
  clear hv hh
  refine (bins_any xs b c h _ (HA.out.below hb1) HV.out).mono ?_
  rintro e w2 ⟨rfl, hb2⟩
  have hbel := Bel.trans hb1 hb2
  obtain ⟨hpl, hlo, hhi⟩ := pos_spec HV.out h
  obtain ⟨pp, hpp⟩ : ∃ pp, posL xs h = pp := ⟨_, rfl⟩
  rw [hpp] at hpl hlo hhi
  rw [hpp]
  have HPP := Lib.hid hpp
  clear hpp hb1 hb2
  cases ha : hasL xs h
  · by_cases hz : pp = 0 ∨ pp = xs.length
    · have HS := Lib.hid (saRes_3 HV.out HH.out ha HPP.out hz)
      clear ha hlo hhi
      rcases hz with rfl | rfl
      · go_wp2
        go_ret2
        exact ⟨by rw [HS.out]; rfl, hbel⟩
      · by_cases hz0 : xs.length = 0
        · have hz1 : ((xs.length : Int) == 0) = true := beq_iff_eq.mpr (by omega)
          go_wp2
          go_ret2
          exact ⟨by rw [HS.out]; rfl, hbel⟩
        · have hz1 : ((xs.length : Int) == 0) = false := beq_eq_false_iff_ne.mpr (by omega)
          go_wp2
          go_ret2
          exact ⟨by rw [HS.out]; rfl, hbel⟩
    · have hp0 : 0 < pp := by omega
      have hpx : pp < xs.length := by omega
      have HS := Lib.hid (saRes_line HV.out HH.out ha HPP.out hp0 hpx)
      have hq1 := hlo (pp - 1) (by omega) (by omega)
      have hq2 : h < xs[pp].Hour := by
        have h1 := hhi pp hpx (Nat.le_refl _)
        have h2 := uniqH HPP.out hpx ha
        omega
      have hz1 : ((pp : Int) == 0) = false := beq_eq_false_iff_ne.mpr (by omega)
      have hz2 : ((pp : Int) == (xs.length : Int)) = false := beq_eq_false_iff_ne.mpr (by omega)
      have hw1 : (1 : Int) ≤ (pp : Int) := by omega
      have hw2 : IntKind.i64.wrap ((pp : Int) - 1) = (pp : Int) - 1 := IntWalk.i64_in _ (by omega)
      have hw3 : ((pp : Int) - 1).toNat = pp - 1 := by omega
      have hpx' : pp - 1 < xs.length := by omega
      obtain ⟨p0, p1, p2, p3⟩ := SObserved.elem (HA.out.below hbel) hpx
      obtain ⟨f0, f1, f2, f3⟩ := SObserved.elem (HA.out.below hbel) hpx'
      have hbl : b < w2.heap.size := (HA.out.below hbel).1
      have HX := Lib.hid (vlObserved_ok HV.out pp hpx)
      have HY := Lib.hid (vlObserved_ok HV.out (pp - 1) hpx')
      clear ha hlo hhi hz
      go_wp2_with fail
      go_region
      all_goals
        clear hw1 hw2 hw3 p0 p1 p2 p3 f0 f1 f2 f3
        go_wp2_with (go_at_call 41; refine (blend_any (xs[pp-1]) xs[pp] h _ HY.out HX.out hq1 hq2).mono ?_; rintro e w3 ⟨rfl, hb3⟩)
        go_ret2
        exact ⟨by rw [HS.out]; rfl, (by repeat (first | (with_reducible assumption) | (with_reducible exact Below.refl _ _) | (with_reducible refine Bel.alloc ?_ _) | (with_reducible refine Below.drew ?_) | (with_reducible refine Bel.drewN ?_ _) | (with_reducible refine Bel.setCell ?_ (by (try simp) <;> omega) _) | (with_reducible refine Bel.trans ?_ (by assumption))))⟩
  · have hpx : pp < xs.length := by
      by_cases h1 : pp < xs.length
      · exact h1
      · rw [has_end HPP.out h1] at ha; cases ha
    have HS := Lib.hid (saRes_has HV.out HH.out ha HPP.out hpx)
    obtain ⟨e0, e1, e2, e3⟩ := SObserved.elem (HA.out.below hbel) hpx
    clear ha hlo hhi
    go_wp2
    go_ret2
    exact ⟨by rw [HS.out]; rfl, hbel⟩
theorem sSnowAt_any (xs : List SObserved) (b c : Nat) (h : Int) (w : World) (A : Arr SObserved.cells 4 w b xs) (hn : xs.length ≤ 1048576) :
    Calls Try.prog 22 #[.slice (some ⟨b, 0, none⟩) xs.length c, .int .i64 h] w fun e w' => e = .returned (.tuple #[.int .i64 (saRes xs h).1, .int .i64 (saRes xs h).2]) ∧ Below w.heap.size w w' := by
  have HA := Lib.hid A
  clear A
  go_enter Try.func22, Try.ntmps22
  go_wp2_with (first | (go_at_call 26; refine (l04Ok_any xs b c _ HA.out hn).mono ?_; rintro e w1 ⟨rfl, hb1⟩) | (go_at_call 38; refine (l04Hour_any _ _).mono ?_; rintro e w' ⟨rfl, rfl⟩))
  all_goals try (go_ret2; first | (rw [saRes_1 (by first | assumption | exact not_f (by assumption) | exact not_t (by assumption))]; exact ⟨rfl, (by repeat (first | (with_reducible assumption) | (with_reducible exact Below.refl _ _) | (with_reducible refine Bel.alloc ?_ _) | (with_reducible refine Below.drew ?_) | (with_reducible refine Bel.drewN ?_ _) | (with_reducible refine Bel.setCell ?_ (by (try simp) <;> omega) _) | (with_reducible refine Bel.trans ?_ (by assumption))))⟩) | (rw [saRes_2 (by first | assumption | exact not_f (by assumption) | exact not_t (by assumption)) (by first | assumption | exact not_f (by assumption) | exact not_t (by assumption))]; exact ⟨rfl, (by repeat (first | (with_reducible assumption) | (with_reducible exact Below.refl _ _) | (with_reducible refine Bel.alloc ?_ _) | (with_reducible refine Below.drew ?_) | (with_reducible refine Bel.drewN ?_ _) | (with_reducible refine Bel.setCell ?_ (by (try simp) <;> omega) _) | (with_reducible refine Bel.trans ?_ (by assumption))))⟩))
  have hv : vlObserved xs = true := (by first | assumption | exact not_f (by assumption) | exact not_t (by assumption))
  have hh : inr 0 100000 h = true := (by first | assumption | exact not_f (by assumption) | exact not_t (by assumption))
  have hlen := vlObserved_len hv
  obtain ⟨hh0, hh1⟩ := inr_bd' hh
  simp only [hv, hh, Bool.not_true]
  have HV := Lib.hid hv
  have HH := Lib.hid hh
  clear hv hh
  obtain ⟨hpl, hlo, hhi⟩ := pos_spec HV.out h
  obtain ⟨pp, hpp⟩ : ∃ pp, posL xs h = pp := ⟨_, rfl⟩
  rw [hpp] at hpl hlo hhi
  have HPP := Lib.hid hpp
  have HLO := Lib.hid hlo
  have HHI := Lib.hid hhi
  clear hpp hlo hhi
  go_loopw [6] (fun i wr => ∃ k : Nat, k ≤ xs.length ∧ i = .int .i64 k ∧ (k ≤ pp ∨ (pp = 0 ∧ hasL xs h = false)) ∧ Below w.heap.size w wr) (fun i wr => xs.length - (intOf i).toNat)
  case atStart => exact ⟨0, by omega, rfl, Or.inl (by omega), hb1⟩
  case round =>
    obtain ⟨k, hk, rfl, hkp, hbel⟩ := hrel
    have HKP := Lib.hid hkp
    clear hkp
    by_cases hlt : k < xs.length
    · obtain ⟨e0, e1, e2, e3⟩ := SObserved.elem (HA.out.below hbel) hlt
      cases hq : (xs[k].Hour == h)
      · have hne : xs[k].Hour ≠ h := by simpa using hq
        by_cases k0 : k = 0
        · subst k0
          have hn0 : 0 + 1 ≤ pp ∨ (pp = 0 ∧ hasL xs h = false) := by
            by_cases hp : pp = 0
            · exact Or.inr ⟨hp, by rw [has_at (HPP.out.trans hp) hlt]; exact hq⟩
            · exact Or.inl (by omega)
          have HN := Lib.hid hn0
          clear hn0
          clear hne
          go_wp2
          go_roundw
          case rel => exact ⟨0 + 1, by omega, by go_num, HN.out, hbel⟩
          case measure => simp [intOf]; omega
        · have hw1 : (1 : Int) ≤ (k : Int) := by omega
          have hw2 : IntKind.i64.wrap ((k : Int) - 1) = (k : Int) - 1 := IntWalk.i64_in _ (by omega)
          have hw3 : ((k : Int) - 1).toNat = k - 1 := by omega
          have hlt' : k - 1 < xs.length := by omega
          obtain ⟨f0, f1, f2, f3⟩ := SObserved.elem (HA.out.below hbel) hlt'
          by_cases hkk : k = pp
          · have ha : hasL xs h = false := by rw [has_at (HPP.out.trans hkk.symm) hlt]; exact hq
            have hg1 := HLO.out (k - 1) hlt' (by omega)
            have hg2 := HHI.out k hlt (by omega)
            have hg3 : h < xs[k].Hour := by omega
            have HS := Lib.hid (saRes_line HV.out HH.out ha (HPP.out.trans hkk.symm) (by omega) hlt)
            have HX := Lib.hid (vlObserved_ok HV.out k hlt)
            have HY := Lib.hid (vlObserved_ok HV.out (k - 1) hlt')
            obtain ⟨p0, p1, p2, p3⟩ := SObserved.elems (HA.out.below hbel) hlt
            obtain ⟨q0, q1, q2, q3⟩ := SObserved.elems (HA.out.below hbel) hlt'
            clear ha hkk hne hg2
            go_wp2_with fail
            refine wp_region_past (by kernel_rfl) (by kernel_rfl) ?_
            repeat (go_big_quiet_step ((go_at_call 39; exact Past.call _ (l01Line_any (xs[k-1]) xs[k] h _ HY.out HX.out hg1 hg3))))
            refine wpQuiet_nil ?_
            intro W1 hw'
            obtain ⟨⟨W_, hbx⟩, hw''⟩ := hw'
            subst hw''
            have hbel := Bel.trans hbel hbx
            clear p0 p1 p2 p3 q0 q1 q2 q3
            go_wp2
            go_ret2
            exact ⟨by rw [HS.out]; rfl, hbel⟩
          · have hno : ¬ (h < xs[k].Hour ∧ (xs[k-1]).Hour < h) := by
              rcases HKP.out with h1 | ⟨h1, h2⟩
              · have := HLO.out k hlt (by omega); omega
              · have := HHI.out (k - 1) hlt' (by omega); omega
            have hn0 : k + 1 ≤ pp ∨ (pp = 0 ∧ hasL xs h = false) := by
              rcases HKP.out with h1 | h1
              · exact Or.inl (by omega)
              · exact Or.inr h1
            have HN := Lib.hid hn0
            clear hn0
            by_cases hg : h < xs[k].Hour
            · have hg2 : h ≤ (xs[k-1]).Hour := by omega
              clear hno hne hkk
              go_wp2
              go_roundw
              case rel => exact ⟨k + 1, by omega, by go_num, HN.out, hbel⟩
              case measure => simp [intOf]; omega
            · clear hno hne hkk
              go_wp2
              go_roundw
              case rel => exact ⟨k + 1, by omega, by go_num, HN.out, hbel⟩
              case measure => simp [intOf]; omega
      · have hu := hasPos HV.out hlt (beq_iff_eq.1 hq)
        have HS := Lib.hid (saRes_has HV.out HH.out hu.2 hu.1 hlt)
        clear hu
        go_wp2
        go_ret2
        exact ⟨by rw [HS.out]; rfl, hbel⟩
    · have hfin : saRes xs h = (0, 3) := by
        rcases HKP.out with h1 | ⟨h1, h2⟩
        · have hpe : pp = xs.length := by omega
          exact saRes_3 HV.out HH.out (has_end (HPP.out) (by omega)) HPP.out (Or.inr hpe)
        · exact saRes_3 HV.out HH.out h2 HPP.out (Or.inl h1)
      have HS := Lib.hid hfin
      clear hfin
      go_wp2
      go_ret2
      exact ⟨by rw [HS.out]; rfl, hbel⟩
end Go.Proofs.Ytoiobpmpkfdidaa
