/- Chapter 12: what the law of growth says of the functions that the program computes; no program in sight. -/
import Derived.Test.YtcjalooaikfkbaaL12
namespace Go.Proofs.Ytcjalooaikfkbaa
set_option linter.unusedSimpArgs false
set_option linter.unusedVariables false
open Go.RowKit
set_option maxHeartbeats 400000
theorem g_least (p : Nat → Bool) : ∀ n, (∀ j, j < n → p j = false) ∨ ∃ k, k < n ∧ (∀ j, j < k → p j = false) ∧ p k = true
  | 0 => Or.inl fun _ h => absurd h (by omega)
  | n + 1 => by
    rcases g_least p n with h | ⟨k, h1, h2, h3⟩
    · cases hp : p n
      · exact Or.inl (upto_snoc h hp)
      · exact Or.inr ⟨n, by omega, h, hp⟩
    · exact Or.inr ⟨k, by omega, h2, h3⟩
/-- a growth that is handed back -/
theorem gr_ok {xs : List SPart} {t s : Int} (h : (grRes xs t s).2 = 0) : gcode xs t s = 0 ∧ massL xs s t xs.length ≤ 100000000 ∧ (grRes xs t s).1 = growL xs s t xs.length := by
  by_cases hc : gcode xs t s = 0
  · by_cases hm : massL xs s t xs.length ≤ 100000000
    · exact ⟨hc, hm, by rw [grRes_0 hc hm]⟩
    · rw [grRes_6 hc hm] at h; cases h
  · rw [grRes_c rfl hc] at h; exact absurd h hc
theorem gr_no {xs : List SPart} {t s : Int} (h : (grRes xs t s).2 ≠ 0) : (grRes xs t s).1 = [] ∧ (lmRes xs t s).2.2 ≠ 0 := by
  by_cases hc : gcode xs t s = 0
  · by_cases hm : massL xs s t xs.length ≤ 100000000
    · rw [grRes_0 hc hm] at h; exact absurd rfl h
    · refine ⟨by rw [grRes_6 hc hm], ?_⟩
      by_cases hl : xs.length = 0
      · rw [lmRes_3 hc hl]; decide
      · rw [lmRes_6 hc hl hm]; decide
  · exact ⟨by rw [grRes_c rfl hc], by rw [lmRes_c rfl hc]; exact hc⟩
theorem inc_at {xs : List SPart} {s t : Int} {i : Nat} (h : i < xs.length) : inc xs s t i = min (taken xs[i] s) (massL xs s t i) := by
  rw [inc, massL, dif_pos h]; omega
theorem lmTo_lt (xs : List SPart) (s t : Int) : ∀ n, 0 < n → lmTo xs s t n < n
  | 0, h => absurd h (by omega)
  | n + 1, _ => by
    rw [lmTo]
    split
    · omega
    · rcases Nat.eq_zero_or_pos n with h | h
      · subst h; rw [lmTo]; omega
      · have := lmTo_lt xs s t n h; omega
theorem lmTo_max (xs : List SPart) (s t : Int) : ∀ n i, i < n → inc xs s t i ≤ inc xs s t (lmTo xs s t n)
  | 0, _, h => absurd h (by omega)
  | n + 1, i, h => by
    rw [lmTo]
    split
    · rename_i hlt
      rcases Nat.lt_or_ge i n with h1 | h1
      · have := lmTo_max xs s t n i h1; omega
      · obtain rfl : i = n := by omega
        omega
    · rename_i hlt
      rcases Nat.lt_or_ge i n with h1 | h1
      · exact lmTo_max xs s t n i h1
      · obtain rfl : i = n := by omega
        omega
/-- the largest mass, where the growth is handed back -/
theorem gr_lm {xs : List SPart} {t s : Int} (h : (grRes xs t s).2 = 0) : ((lmRes xs t s).2.2 = 0 ↔ 0 < xs.length) ∧
    ∀ i, i < xs.length → 0 ≤ inc xs s t i ∧ inc xs s t i ≤ massL xs s t i ∧ inc xs s t i ≤ (lmRes xs t s).2.1 ∧ ((lmRes xs t s).1 = (i : Int) → inc xs s t i = (lmRes xs t s).2.1) := by
  obtain ⟨hc, hm, -⟩ := gr_ok h
  obtain ⟨hv, ht0, ht1, hs0, hs1⟩ := gcode_0 hc
  constructor
  · by_cases hl : xs.length = 0
    · rw [lmRes_3 hc hl]; exact ⟨fun h => absurd h (by decide), fun h => absurd h (by omega)⟩
    · rw [lmRes_0 hc hl hm rfl]; exact ⟨fun _ => by omega, fun _ => rfl⟩
  · intro i hi
    have hl : ¬ xs.length = 0 := by omega
    rw [lmRes_0 hc hl hm rfl]
    have h1 := inc_at (s := s) (t := t) hi
    have h2 := taken_bd (vlPart_ok hv i hi) hs0 hs1
    have h3 := (mass_bd hv hs0 hs1 ht0 i).1
    refine ⟨by omega, by omega, lmTo_max xs s t _ i hi, fun e => ?_⟩
    have : lmTo xs s t xs.length = i := by simp only at e; omega
    simp only [this]
theorem rdiv_0 {b : Int} (hb : 0 < b) : rdiv 0 b = 0 := by
  rw [rdiv, if_neg (by omega)]
  exact Int.ediv_eq_zero_of_lt (by omega) (by omega)
theorem mass_0 {xs : List SPart} {t : Int} (h0 : 0 ≤ t) : ∀ k, massL xs 0 t k = t
  | 0 => rfl
  | k + 1 => by
    rw [massL]
    split
    · rw [mass_0 h0 k]
      have : taken xs[k] 0 = 0 := by rw [taken, Int.mul_zero, rdiv_0 (by omega)]
      omega
    · exact mass_0 h0 k
/-- without a share nothing grows -/
theorem gr_still {xs : List SPart} {t s : Int} (h : (grRes xs t s).2 = 0) : grRes xs t 0 = (growL xs 0 t xs.length, 0) ∧ ∀ k, massL xs 0 t k = t := by
  obtain ⟨hc, hm, -⟩ := gr_ok h
  obtain ⟨hv, ht0, ht1, hs0, hs1⟩ := gcode_0 hc
  have hz := mass_0 (xs := xs) ht0
  exact ⟨grRes_0 (by rw [gcode, if_pos hv, if_pos (by simp [inr]; omega)]) (by rw [hz]; omega), hz⟩
/-- the bounds of what is handed back -/
theorem gr_bd {xs : List SPart} {t s : Int} (h : (grRes xs t s).2 = 0) (k : Nat) (hk : k ≤ xs.length) : xs.length ≤ 24 ∧ 0 ≤ t ∧ t ≤ 100000000 ∧ 0 ≤ massL xs s t k ∧ massL xs s t k ≤ 100000000 := by
  obtain ⟨hc, hm, -⟩ := gr_ok h
  obtain ⟨hv, ht0, ht1, hs0, hs1⟩ := gcode_0 hc
  have h1 := mass_mono hv hs0 hs1 ht0 hk
  have h2 := mass_bd hv hs0 hs1 ht0 k
  exact ⟨vlPart_len hv, ht0, ht1, by omega, by omega⟩
theorem ls_no {xs : List SPart} {s g : Int} (h : (lsRes xs s g).2 ≠ 0) : (lsRes xs s g).1 = 0 := by
  by_cases hc : gcode xs g s = 0
  · by_cases hl : xs.length = 0
    · rw [lsRes_g hc hl] at h; exact absurd rfl h
    · rw [lsRes_0 hc hl rfl] at h; exact absurd rfl h
  · rw [lsRes_c rfl hc]
theorem ls_none {xs : List SPart} {s g : Int} (h : (lsRes xs s g).2 = 0) (hl : xs.length = 0) : (lsRes xs s g).1 = g ∧ 0 ≤ g ∧ g ≤ 100000000 := by
  by_cases hc : gcode xs g s = 0
  · obtain ⟨-, h1, h2, -⟩ := gcode_0 hc
    exact ⟨by rw [lsRes_g hc hl], h1, h2⟩
  · rw [lsRes_c rfl hc] at h; exact absurd h hc
/-- the least start is just enough -/
theorem ls_some {xs : List SPart} {s g : Int} (h : (lsRes xs s g).2 = 0) (hl : xs.length ≠ 0) : 0 ≤ (lsRes xs s g).1 ∧ (lsRes xs s g).1 ≤ 100000000 ∧ (lsRes xs s g).1 ≤ g ∧ g ≤ 100000000 ∧
    ((grRes xs (lsRes xs s g).1 s).2 = 6 ∨ (grRes xs (lsRes xs s g).1 s).2 = 0 ∧ g ≤ massL xs s (lsRes xs s g).1 xs.length) ∧
    ((lsRes xs s g).1 = 0 ∨ (grRes xs ((lsRes xs s g).1 - 1) s).2 = 0 ∧ massL xs s ((lsRes xs s g).1 - 1) xs.length < g) := by
  by_cases hc : gcode xs g s = 0
  · obtain ⟨hv, hg0, hg1, hs0, hs1⟩ := gcode_0 hc
    have hgc : ∀ t : Int, 0 ≤ t → t ≤ 100000000 → gcode xs t s = 0 := fun t a b => by rw [gcode, if_pos hv, if_pos (by simp [inr]; omega)]
    rcases g_least (fun k : Nat => reach xs s g k) 100000001 with hn | ⟨k, hk, hlow, hk1⟩
    · have := hn 100000000 (by omega)
      have h2 := reach_top (xs := xs) (s := s) hv hs0 hs1 hg1
      rw [show ((100000000 : Nat) : Int) = 100000000 from rfl] at this
      simp only [h2] at this
      cases this
    · have h2 : k = 0 ∨ reach xs s g ((k : Int) - 1) = false := by
        rcases Nat.eq_zero_or_pos k with e | e
        · exact Or.inl e
        · have := hlow (k - 1) (by omega)
          rw [show ((k - 1 : Nat) : Int) = (k : Int) - 1 by omega] at this
          exact Or.inr this
      have hkg : (k : Int) ≤ g := by
        rcases Int.lt_or_le g (k : Int) with h3 | h3
        · have h4 := hlow g.toNat (by omega)
          rw [show ((g.toNat : Nat) : Int) = g by omega] at h4
          have h5 := (mass_bd (t := g) hv hs0 hs1 hg0 xs.length).1
          simp only [reach, decide_eq_false_iff_not] at h4
          omega
        · exact h3
      rw [lsRes_0 hc hl (leastS_of hv hs0 hs1 (by omega) hk1 h2)]
      refine ⟨by simp, by simp; omega, hkg, hg1, ?_, ?_⟩
      · have hr : g ≤ massL xs s k xs.length := by simpa [reach] using hk1
        by_cases hm : massL xs s k xs.length ≤ 100000000
        · exact Or.inr ⟨by rw [grRes_0 (hgc k (by omega) (by omega)) hm], hr⟩
        · exact Or.inl (by rw [grRes_6 (hgc k (by omega) (by omega)) hm])
      · rcases h2 with h2 | h2
        · exact Or.inl (by simp [h2])
        · rcases Nat.eq_zero_or_pos k with e | e
          · exact Or.inl (by simp [e])
          · have hr : massL xs s ((k : Int) - 1) xs.length < g := by simpa [reach] using h2
            exact Or.inr ⟨by show (grRes xs ((k : Int) - 1) s).2 = 0; rw [grRes_0 (hgc _ (by omega) (by omega)) (by omega)], hr⟩
  · rw [lsRes_c rfl hc] at h; exact absurd h hc
end Go.Proofs.Ytcjalooaikfkbaa
