/- Chapter 10: what the law of the forest says of the functions that the program computes; no program in sight. -/
import Derived.Test.YtcjalooaikfkbaaL10
namespace Go.Proofs.Ytcjalooaikfkbaa
set_option linter.unusedSimpArgs false
set_option linter.unusedVariables false
open Go.RowKit
set_option maxHeartbeats 400000
theorem least_cases (p : Nat → Bool) : ∀ n, (∀ j, j < n → p j = false) ∨ ∃ k, k < n ∧ (∀ j, j < k → p j = false) ∧ p k = true
  | 0 => Or.inl fun _ h => absurd h (by omega)
  | n + 1 => by
    rcases least_cases p n with h | ⟨k, h1, h2, h3⟩
    · cases hp : p n
      · exact Or.inl (upto_snoc h hp)
      · exact Or.inr ⟨n, by omega, h, hp⟩
    · exact Or.inr ⟨k, by omega, h2, h3⟩
def protOf (x : SStand) (s : Int) : Int × Int := if okStand x then (if inr 0 2000 s then (prot x s, 0) else (0, 2)) else (0, 1)
theorem protOf_1 {x : SStand} {s : Int} (h : okStand x = false) : protOf x s = (0, 1) := by simp [protOf, h]
theorem protOf_2 {x : SStand} {s : Int} (h : okStand x = true) (h2 : inr 0 2000 s = false) : protOf x s = (0, 2) := by simp [protOf, h, h2]
theorem protOf_0 {x : SStand} {s : Int} (h : okStand x = true) (h2 : inr 0 2000 s = true) : protOf x s = (prot x s, 0) := by simp [protOf, h, h2]
def mostSnow (x : SStand) (l : Int) : Int × Int :=
  if okStand x then (if inr 0 1000 l then (match fst (fun k => decide (l ≤ prot x (2000 - (k : Int)))) 2001 with | some k => (2000 - (k : Int), 0) | none => (0, 3)) else (0, 2)) else (0, 1)
theorem mostSnow_1 {x : SStand} {l : Int} (h : okStand x = false) : mostSnow x l = (0, 1) := by simp [mostSnow, h]
theorem mostSnow_2 {x : SStand} {l : Int} (h : okStand x = true) (h2 : inr 0 1000 l = false) : mostSnow x l = (0, 2) := by simp [mostSnow, h, h2]
theorem mostSnow_3 {x : SStand} {l : Int} (h : okStand x = true) (h2 : inr 0 1000 l = true) (h3 : ∀ j : Nat, j < 2001 → decide (l ≤ prot x (2000 - (j : Int))) = false) : mostSnow x l = (0, 3) := by
  rw [mostSnow, if_pos h, if_pos h2, fst_none h3]
theorem mostSnow_0 {x : SStand} {l : Int} {k : Nat} (h : okStand x = true) (h2 : inr 0 1000 l = true) (hk : k < 2001) (h3 : ∀ j : Nat, j < k → decide (l ≤ prot x (2000 - (j : Int))) = false) (h4 : decide (l ≤ prot x (2000 - (k : Int))) = true) :
    mostSnow x l = (2000 - (k : Int), 0) := by rw [mostSnow, if_pos h, if_pos h2, fst_some hk h3 h4]
theorem okStand_id {x : SStand} (h : okStand x = true) : isName x.Id = true := by simp [okStand] at h; exact h.1.1.1.1
theorem okStand_mk {x : SStand} (h : isName x.Id = true) (hb : bdStand x) : okStand x = true := by
  unfold bdStand at hb
  simp [okStand, inr, h]; omega
theorem ok_growN {x : SStand} (h : okStand x = true) (k : Nat) : okStand (growN x k) = true :=
  okStand_mk (by rw [id_growN]; exact okStand_id h) (bd_growN (okStand_bd h) k)
theorem prot_bd {x : SStand} (h : bdStand x) (s : Int) : 0 ≤ prot x s ∧ prot x s ≤ 1000 := by
  unfold bdStand at h
  unfold prot
  split
  · omega
  · omega
theorem prot_snow {x : SStand} (h : bdStand x) (s : Int) : prot x (s + 1) ≤ prot x s := by
  have h0 := prot_bd h s
  unfold prot at *
  split
  · exact h0.1
  · rw [if_neg (by omega)]; exact Int.le_refl _
theorem prot_grown {x : SStand} (h : bdStand x) (s : Int) : prot x s ≤ prot (grownS x) s := by
  have h0 := prot_bd (bd_grown h) s
  unfold bdStand at h
  have h1 := rdiv50 (5000 - x.Height) (by omega)
  have h2 := rdiv40 (1000 - x.Cover) (by omega)
  by_cases hh : x.Height < 2 * s
  · have e1 : prot x s = 0 := by unfold prot; rw [if_pos hh]
    rw [e1]; exact h0.1
  · have e1 : prot x s = max (min (min 1000 (rdiv (x.Trees * 1000) 500)) x.Cover - 10 * max (x.Gap - 20) 0) 0 := by unfold prot; rw [if_neg hh]
    have hh' : ¬ (grownS x).Height < 2 * s := by
      show ¬ x.Height + rdiv (5000 - x.Height) 50 < 2 * s
      omega
    have e2 : prot (grownS x) s = max (min (min 1000 (rdiv (x.Trees * 1000) 500)) (x.Cover + rdiv (1000 - x.Cover) 40) - 10 * max (max (x.Gap - 1) 0 - 20) 0) 0 := by unfold prot; rw [if_neg hh']; rfl
    rw [e1, e2]
    generalize rdiv (x.Trees * 1000) 500 = t
    omega
theorem forest1 {x : SStand} {s : Int} (h : (protOf x s).2 = 0) : 0 ≤ (protOf x s).1 ∧ (protOf x s).1 ≤ 1000 ∧ ((protOf x (s + 1)).2 = 0 → (protOf x (s + 1)).1 ≤ (protOf x s).1) ∧
    (growStand x 1).2 = 0 ∧ (protOf (growStand x 1).1 s).2 = 0 ∧ (protOf x s).1 ≤ (protOf (growStand x 1).1 s).1 := by
  cases h1 : okStand x
  · rw [protOf_1 h1] at h; cases h
  cases h2 : inr 0 2000 s
  · rw [protOf_2 h1 h2] at h; cases h
  have hb : bdStand x := okStand_bd h1
  have hg : growStand x 1 = (grownS x, 0) := growStand_0 h1 (by decide)
  have hp := prot_bd hb s
  have e1 : protOf (grownS x) s = (prot (grownS x) s, 0) := protOf_0 (ok_growN h1 1) h2
  rw [protOf_0 h1 h2, hg]
  refine ⟨hp.1, hp.2, fun h3 => ?_, rfl, by rw [e1], by rw [e1]; exact prot_grown hb s⟩
  cases h4 : inr 0 2000 (s + 1)
  · rw [protOf_2 h1 h4] at h3; cases h3
  · rw [protOf_0 h1 h4]; exact prot_snow hb s
theorem forest2 {x : SStand} {l : Int} (h : (mostSnow x l).2 = 0) : 0 ≤ (mostSnow x l).1 ∧ (mostSnow x l).1 ≤ 2000 ∧ (protOf x (mostSnow x l).1).2 = 0 ∧ l ≤ (protOf x (mostSnow x l).1).1 ∧
    ((protOf x ((mostSnow x l).1 + 1)).2 = 0 → (protOf x ((mostSnow x l).1 + 1)).1 < l) := by
  cases h1 : okStand x
  · rw [mostSnow_1 h1] at h; cases h
  cases h2 : inr 0 1000 l
  · rw [mostSnow_2 h1 h2] at h; cases h
  rcases least_cases (fun k => decide (l ≤ prot x (2000 - (k : Int)))) 2001 with h3 | ⟨k, hk, h3, h4⟩
  · rw [mostSnow_3 h1 h2 h3] at h; cases h
  · rw [mostSnow_0 h1 h2 hk h3 h4]
    have h5 : inr 0 2000 (2000 - (k : Int)) = true := by simp [inr]; omega
    dsimp only
    rw [protOf_0 h1 h5]
    refine ⟨by omega, by omega, rfl, by simpa using h4, fun h6 => ?_⟩
    cases h7 : inr 0 2000 (2000 - (k : Int) + 1)
    · rw [protOf_2 h1 h7] at h6; cases h6
    · rw [protOf_0 h1 h7]
      have hk0 : 0 < k := by
        rcases Nat.eq_zero_or_pos k with h8 | h8
        · subst h8; simp [inr] at h7
        · exact h8
      have := h3 (k - 1) (by omega)
      rw [show (2000 - ((k - 1 : Nat) : Int)) = 2000 - (k : Int) + 1 by omega] at this
      simpa using this
theorem forest3 {x : SStand} {s l : Int} (h : (yearsUntil x s l).2 ≠ 0) : (yearsUntil x s l).1 = 0 := by
  cases h1 : okStand x
  · rw [yearsUntil_1 h1]
  cases h2 : (inr 0 2000 s && inr 0 1000 l)
  · rw [yearsUntil_2 h1 h2]
  rcases least_cases (fun k => decide (l ≤ prot (growN x k) s)) 201 with h3 | ⟨k, hk, h3, h4⟩
  · rw [yearsUntil_3 h1 h2 h3]
  · rw [yearsUntil_0 h1 h2 hk h3 h4] at h; exact absurd rfl h
theorem forest4 {x : SStand} {s l : Int} (h : (yearsUntil x s l).2 = 0) : 0 ≤ (yearsUntil x s l).1 ∧ (yearsUntil x s l).1 ≤ 200 ∧ (growStand x (yearsUntil x s l).1).2 = 0 ∧
    (protOf (growStand x (yearsUntil x s l).1).1 s).2 = 0 ∧ l ≤ (protOf (growStand x (yearsUntil x s l).1).1 s).1 ∧
    ((yearsUntil x s l).1 ≠ 0 → (growStand x ((yearsUntil x s l).1 - 1)).2 = 0 ∧ (protOf (growStand x ((yearsUntil x s l).1 - 1)).1 s).2 = 0 ∧ (protOf (growStand x ((yearsUntil x s l).1 - 1)).1 s).1 < l) := by
  cases h1 : okStand x
  · rw [yearsUntil_1 h1] at h; cases h
  cases h2 : (inr 0 2000 s && inr 0 1000 l)
  · rw [yearsUntil_2 h1 h2] at h; cases h
  have h2' : inr 0 2000 s = true := by simp at h2; exact h2.1
  rcases least_cases (fun k => decide (l ≤ prot (growN x k) s)) 201 with h3 | ⟨k, hk, h3, h4⟩
  · rw [yearsUntil_3 h1 h2 h3] at h; cases h
  · rw [yearsUntil_0 h1 h2 hk h3 h4]
    have h5 : growStand x (k : Int) = (growN x k, 0) := by rw [growStand_0 h1 (by simp [inr]; omega)]; simp
    dsimp only
    rw [h5, protOf_0 (ok_growN h1 k) h2']
    refine ⟨by omega, by omega, rfl, rfl, by simpa using h4, fun h6 => ?_⟩
    have h7 : growStand x ((k : Int) - 1) = (growN x (k - 1), 0) := by
      rw [growStand_0 h1 (by simp [inr]; omega)]
      rw [show ((k : Int) - 1).toNat = k - 1 by omega]
    rw [h7, protOf_0 (ok_growN h1 (k - 1)) h2']
    refine ⟨rfl, rfl, ?_⟩
    have := h3 (k - 1) (by omega)
    simpa using this
theorem growStand_id (x : SStand) (y : Int) (h : x.Id.size ≤ 9223372036854775807) : (growStand x y).1.Id.size ≤ 9223372036854775807 := by
  unfold growStand
  split
  · split
    · rw [id_growN]; exact h
    · exact Nat.zero_le _
  · exact Nat.zero_le _
end Go.Proofs.Ytcjalooaikfkbaa
