/- Chapter 12: masses that grow; plain part. -/
import Derived.Test.YtcjalooaikfkbaaTypes
import Derived.Test.YtcjalooaikfkbaaLst
import Derived.Test.YtcjalooaikfkbaaAllW
namespace Go.Proofs.Ytcjalooaikfkbaa
set_option linter.unusedSimpArgs false
set_option linter.unusedVariables false
open Go.RowKit
set_option maxHeartbeats 400000
def okPart (x : SPart) : Bool := inr 1 2000 x.Length && inr 1 500 x.Width && inr 0 500 x.Depth && inr 1 1000 x.Density
theorem okPart_bd {x : SPart} (h : okPart x = true) : 1 ≤ x.Length ∧ x.Length ≤ 2000 ∧ 1 ≤ x.Width ∧ x.Width ≤ 500 ∧ 0 ≤ x.Depth ∧ x.Depth ≤ 500 ∧ 1 ≤ x.Density ∧ x.Density ≤ 1000 := by simp [okPart, inr] at h; omega
def vlPart (xs : List SPart) : Bool := xs.all okPart && decide (xs.length ≤ 24)
theorem vlPart_len {xs : List SPart} (h : vlPart xs = true) : xs.length ≤ 24 := by simp only [vlPart, Bool.and_eq_true, decide_eq_true_eq] at h; exact h.2
theorem vlPart_ok {xs : List SPart} (h : vlPart xs = true) : ∀ k (hk : k < xs.length), okPart xs[k] = true := fun k hk => by
  simp only [vlPart, Bool.and_eq_true, List.all_eq_true] at h; exact h.1 _ (List.getElem_mem hk)
theorem mul_bd {a b A B : Int} (h1 : 0 ≤ a) (h2 : a ≤ A) (h3 : 0 ≤ b) (h4 : b ≤ B) : 0 ≤ a * b ∧ a * b ≤ A * B :=
  ⟨Int.mul_nonneg h1 h3, Int.le_trans (Int.mul_le_mul_of_nonneg_right h2 h3) (Int.mul_le_mul_of_nonneg_left h4 (by omega))⟩
theorem rdiv_range {a b M : Int} (hb : 0 < b) (h0 : 0 ≤ a) (h : a ≤ M * b) : 0 ≤ rdiv a b ∧ rdiv a b ≤ M := by
  rw [rdiv, if_neg (by omega)]
  refine ⟨Int.ediv_nonneg (by omega) (by omega), ?_⟩
  have : (2 * a + b) / (2 * b) < M + 1 := by
    apply Int.ediv_lt_of_lt_mul (by omega)
    have e : (M + 1) * (2 * b) = 2 * (M * b) + 2 * b := by rw [Int.add_mul, Int.one_mul, Int.mul_left_comm]
    omega
  omega
def vol (x : SPart) : Int := x.Length * x.Width * x.Depth * x.Density
theorem vol_bd {x : SPart} (h : okPart x = true) : (0 ≤ x.Length * x.Width ∧ x.Length * x.Width ≤ 1000000) ∧ (0 ≤ x.Length * x.Width * x.Depth ∧ x.Length * x.Width * x.Depth ≤ 500000000) ∧ 0 ≤ vol x ∧ vol x ≤ 500000000000 := by
  have hb := okPart_bd h
  have h1 := mul_bd (a := x.Length) (b := x.Width) (A := 2000) (B := 500) (by omega) (by omega) (by omega) (by omega)
  have h2 := mul_bd (a := x.Length * x.Width) (b := x.Depth) (A := 1000000) (B := 500) h1.1 (by omega) (by omega) (by omega)
  have h3 := mul_bd (a := x.Length * x.Width * x.Depth) (b := x.Density) (A := 500000000) (B := 1000) h2.1 (by omega) (by omega) (by omega)
  exact ⟨⟨h1.1, by omega⟩, ⟨h2.1, by omega⟩, h3.1, by unfold vol; omega⟩
def slab (x : SPart) : Int := rdiv (vol x) 100000
theorem slab_bd {x : SPart} (h : okPart x = true) : 0 ≤ slab x ∧ slab x ≤ 5000000 := rdiv_range (by omega) (vol_bd h).2.2.1 (by have := (vol_bd h).2.2.2; omega)
def taken (x : SPart) (share : Int) : Int := rdiv (slab x * share) 1000
theorem slabs_bd {x : SPart} {s : Int} (h : okPart x = true) (h0 : 0 ≤ s) (h1 : s ≤ 1000) : 0 ≤ slab x * s ∧ slab x * s ≤ 5000000000 := by
  have := mul_bd (a := slab x) (b := s) (slab_bd h).1 (slab_bd h).2 h0 h1
  omega
theorem taken_bd {x : SPart} {s : Int} (h : okPart x = true) (h0 : 0 ≤ s) (h1 : s ≤ 1000) : 0 ≤ taken x s ∧ taken x s ≤ 5000000 := rdiv_range (by omega) (slabs_bd h h0 h1).1 (by have := (slabs_bd h h0 h1).2; omega)
/-- the mass after k parts -/
def massL (xs : List SPart) (s t : Int) : Nat → Int
  | 0 => t
  | k + 1 => if h : k < xs.length then massL xs s t k + min (taken xs[k] s) (massL xs s t k) else massL xs s t k
theorem mass_at {xs : List SPart} {s t : Int} {k : Nat} {m : Int} (h : k < xs.length) (hm : massL xs s t k = m) : massL xs s t (k + 1) = m + min (taken xs[k] s) m := by rw [massL, dif_pos h, hm]
theorem mass_bd {xs : List SPart} {s t : Int} (hv : vlPart xs = true) (hs0 : 0 ≤ s) (hs1 : s ≤ 1000) (h0 : 0 ≤ t) (k : Nat) : t ≤ massL xs s t k ∧ massL xs s t k ≤ t + 5000000 * k := by
  induction k with
  | zero => simp [massL]
  | succ k ih =>
    rw [massL]
    split
    · rename_i h
      have := taken_bd (vlPart_ok hv k h) hs0 hs1
      omega
    · omega
theorem mass_step {xs : List SPart} {s t : Int} (hv : vlPart xs = true) (hs0 : 0 ≤ s) (hs1 : s ≤ 1000) (h0 : 0 ≤ t) (k : Nat) : massL xs s t k ≤ massL xs s t (k + 1) := by
  rw [massL]
  split
  · rename_i h
    have := taken_bd (vlPart_ok hv k h) hs0 hs1
    have := (mass_bd hv hs0 hs1 h0 k).1
    omega
  · omega
theorem mass_mono {xs : List SPart} {s t : Int} (hv : vlPart xs = true) (hs0 : 0 ≤ s) (hs1 : s ≤ 1000) (h0 : 0 ≤ t) {i j : Nat} (h : i ≤ j) : massL xs s t i ≤ massL xs s t j := by
  obtain ⟨d, rfl⟩ := Nat.exists_eq_add_of_le h
  induction d with
  | zero => exact Int.le_refl _
  | succ d ih => exact Int.le_trans (ih (by omega)) (mass_step hv hs0 hs1 h0 (i + d))
theorem mass_le {xs : List SPart} {s t t' : Int} (hv : vlPart xs = true) (hs0 : 0 ≤ s) (hs1 : s ≤ 1000) (h0 : 0 ≤ t) (h : t ≤ t') (k : Nat) : massL xs s t k ≤ massL xs s t' k := by
  induction k with
  | zero => exact h
  | succ k ih =>
    rw [massL, massL]
    split
    · omega
    · exact ih
/-- the masses after each of the first k parts -/
def growL (xs : List SPart) (s t : Int) (k : Nat) : List Int := (List.range k).map fun i => massL xs s t (i + 1)
theorem growL_len (xs : List SPart) (s t : Int) (k : Nat) : (growL xs s t k).length = k := by simp [growL]
theorem growL_at (xs : List SPart) (s t : Int) (k i : Nat) (h : i < (growL xs s t k).length) : (growL xs s t k)[i] = massL xs s t (i + 1) := by simp [growL]
theorem growL_snoc (xs : List SPart) (s t : Int) (k : Nat) : growL xs s t (k + 1) = growL xs s t k ++ [massL xs s t (k + 1)] := by simp [growL, List.range_succ]
/-- all masses are allowed just if the last one is -/
theorem grow_all {xs : List SPart} {s t : Int} (hv : vlPart xs = true) (hs0 : 0 ≤ s) (hs1 : s ≤ 1000) (h0 : 0 ≤ t) (h1 : t ≤ 100000000) : allIn 0 100000000 (growL xs s t xs.length) = decide (massL xs s t xs.length ≤ 100000000) := by
  by_cases h : massL xs s t xs.length ≤ 100000000
  · rw [decide_eq_true h, allIn, List.all_eq_true]
    intro x hx
    obtain ⟨k, hk, rfl⟩ := List.getElem_of_mem hx
    rw [growL_len] at hk
    rw [growL_at]
    have h2 := mass_mono hv hs0 hs1 h0 (show k + 1 ≤ xs.length by omega)
    have h3 := (mass_bd hv hs0 hs1 h0 (k + 1)).1
    simp [inr]; omega
  · rw [decide_eq_false h, allIn, List.all_eq_false]
    have hpos : 0 < xs.length := by
      rcases Nat.eq_zero_or_pos xs.length with h2 | h2
      · rw [h2, massL] at h; omega
      · exact h2
    refine ⟨massL xs s t xs.length, ?_, by simp [inr]; omega⟩
    have e : (growL xs s t xs.length)[xs.length - 1]'(by rw [growL_len]; omega) = massL xs s t xs.length := by
      rw [growL_at]; congr 1; omega
    rw [← e]
    exact List.getElem_mem _
def gcode (xs : List SPart) (t s : Int) : Int := if vlPart xs then (if inr 0 100000000 t && inr 0 1000 s then 0 else 2) else 1
def grRes (xs : List SPart) (t s : Int) : List Int × Int :=
  if gcode xs t s = 0 then (if massL xs s t xs.length ≤ 100000000 then (growL xs s t xs.length, 0) else ([], 6)) else ([], gcode xs t s)
theorem gcode_0 {xs : List SPart} {t s : Int} (h : gcode xs t s = 0) : vlPart xs = true ∧ 0 ≤ t ∧ t ≤ 100000000 ∧ 0 ≤ s ∧ s ≤ 1000 := by
  unfold gcode at h
  split at h
  · rename_i h1
    split at h
    · rename_i h2
      rw [Bool.and_eq_true] at h2
      have a := inr_bd' h2.1
      have b := inr_bd' h2.2
      exact ⟨h1, a.1, a.2, b.1, b.2⟩
    · omega
  · omega
theorem grRes_c {xs : List SPart} {t s c : Int} (hc : gcode xs t s = c) (h : c ≠ 0) : grRes xs t s = ([], c) := by rw [grRes, hc, if_neg h]
theorem grRes_6 {xs : List SPart} {t s : Int} (hc : gcode xs t s = 0) (h : ¬ massL xs s t xs.length ≤ 100000000) : grRes xs t s = ([], 6) := by rw [grRes, if_pos hc, if_neg h]
theorem grRes_0 {xs : List SPart} {t s : Int} (hc : gcode xs t s = 0) (h : massL xs s t xs.length ≤ 100000000) : grRes xs t s = (growL xs s t xs.length, 0) := by rw [grRes, if_pos hc, if_pos h]
theorem grRes_len {xs : List SPart} {t s : Int} : (grRes xs t s).1.length ≤ xs.length := by
  unfold grRes
  split
  · split
    · rw [growL_len]; exact Nat.le_refl _
    · simp
  · simp
/-- what the k-th part takes up -/
def inc (xs : List SPart) (s t : Int) (k : Nat) : Int := massL xs s t (k + 1) - massL xs s t k
def lmTo (xs : List SPart) (s t : Int) : Nat → Nat
  | 0 => 0
  | k + 1 => if inc xs s t (lmTo xs s t k) < inc xs s t k then k else lmTo xs s t k
theorem lmTo_1 (xs : List SPart) (s t : Int) : lmTo xs s t 1 = 0 := by rw [lmTo, lmTo]; exact if_neg (by omega)
theorem lm_yes {xs : List SPart} {s t : Int} {k m : Nat} (hm : lmTo xs s t k = m) (h : inc xs s t m < inc xs s t k) : lmTo xs s t (k + 1) = k := by rw [lmTo, hm, if_pos h]
theorem lm_no {xs : List SPart} {s t : Int} {k m : Nat} (hm : lmTo xs s t k = m) (h : ¬ inc xs s t m < inc xs s t k) : lmTo xs s t (k + 1) = m := by rw [lmTo, hm, if_neg h]
def lmRes (xs : List SPart) (t s : Int) : Int × Int × Int :=
  if gcode xs t s = 0 then (if xs.length = 0 then (0, 0, 3) else if massL xs s t xs.length ≤ 100000000 then ((lmTo xs s t xs.length : Int), inc xs s t (lmTo xs s t xs.length), 0) else (0, 0, 6)) else (0, 0, gcode xs t s)
theorem lmRes_c {xs : List SPart} {t s c : Int} (hc : gcode xs t s = c) (h : c ≠ 0) : lmRes xs t s = (0, 0, c) := by rw [lmRes, hc, if_neg h]
theorem lmRes_3 {xs : List SPart} {t s : Int} (hc : gcode xs t s = 0) (h : xs.length = 0) : lmRes xs t s = (0, 0, 3) := by rw [lmRes, if_pos hc, if_pos h]
theorem lmRes_6 {xs : List SPart} {t s : Int} (hc : gcode xs t s = 0) (h : ¬ xs.length = 0) (h2 : ¬ massL xs s t xs.length ≤ 100000000) : lmRes xs t s = (0, 0, 6) := by rw [lmRes, if_pos hc, if_neg h, if_neg h2]
theorem lmRes_0 {xs : List SPart} {t s : Int} {m : Nat} (hc : gcode xs t s = 0) (h : ¬ xs.length = 0) (h2 : massL xs s t xs.length ≤ 100000000) (hm : lmTo xs s t xs.length = m) : lmRes xs t s = ((m : Int), inc xs s t m, 0) := by rw [lmRes, if_pos hc, if_neg h, if_pos h2, hm]
/-- starting so, the goal is reached -/
def reach (xs : List SPart) (s g t : Int) : Bool := decide (g ≤ massL xs s t xs.length)
theorem reach_up {xs : List SPart} {s g t t' : Int} (hv : vlPart xs = true) (hs0 : 0 ≤ s) (hs1 : s ≤ 1000) (h0 : 0 ≤ t) (h : t ≤ t') (hr : reach xs s g t = true) : reach xs s g t' = true := by
  have := mass_le hv hs0 hs1 h0 h xs.length
  simp only [reach, decide_eq_true_eq] at hr ⊢
  omega
theorem reach_top {xs : List SPart} {s g : Int} (hv : vlPart xs = true) (hs0 : 0 ≤ s) (hs1 : s ≤ 1000) (hg : g ≤ 100000000) : reach xs s g 100000000 = true := by
  have := (mass_bd (t := 100000000) hv hs0 hs1 (by omega) xs.length).1
  simp only [reach, decide_eq_true_eq]
  omega
/-- the least start -/
def leastS (xs : List SPart) (s g : Int) : Nat := (fst (fun k : Nat => reach xs s g k) 100000001).getD 0
theorem leastS_of {xs : List SPart} {s g : Int} {k : Nat} (hv : vlPart xs = true) (hs0 : 0 ≤ s) (hs1 : s ≤ 1000) (hk : k ≤ 100000000) (h : reach xs s g k = true) (h2 : k = 0 ∨ reach xs s g ((k : Int) - 1) = false) : leastS xs s g = k := by
  rw [leastS, fst_some (k := k) (by omega) (fun j hj => ?_) h]
  · rfl
  · rcases h2 with h2 | h2
    · omega
    · cases hr : reach xs s g (j : Int)
      · rfl
      · rw [reach_up hv hs0 hs1 (t := (j : Int)) (t' := (k : Int) - 1) (by omega) (by omega) hr] at h2; cases h2
def lsRes (xs : List SPart) (s g : Int) : Int × Int :=
  if gcode xs g s = 0 then (if xs.length = 0 then (g, 0) else ((leastS xs s g : Int), 0)) else (0, gcode xs g s)
theorem lsRes_c {xs : List SPart} {g s c : Int} (hc : gcode xs g s = c) (h : c ≠ 0) : lsRes xs s g = (0, c) := by rw [lsRes, hc, if_neg h]
theorem lsRes_g {xs : List SPart} {g s : Int} (hc : gcode xs g s = 0) (h : xs.length = 0) : lsRes xs s g = (g, 0) := by rw [lsRes, if_pos hc, if_pos h]
theorem lsRes_0 {xs : List SPart} {g s : Int} {k : Nat} (hc : gcode xs g s = 0) (h : ¬ xs.length = 0) (hk : leastS xs s g = k) : lsRes xs s g = ((k : Int), 0) := by rw [lsRes, if_pos hc, if_neg h, hk]
end Go.Proofs.Ytcjalooaikfkbaa
