/- Chapter 20: what the law of verification says of the functions that the program computes; no program in sight. -/
import Derived.Test.YtcjalooaikfkbaaL20b
import Derived.Test.YtcjalooaikfkbaaL20c
import Derived.Test.YtcjalooaikfkbaaL20t
namespace Go.Proofs.Ytcjalooaikfkbaa
set_option linter.unusedSimpArgs false
set_option linter.unusedVariables false
open Go.RowKit
set_option maxHeartbeats 400000
theorem days_lt1 {xs : List SVerified} (h : vlVerified xs = true) {k : Nat} (hk : k < xs.length) (h0 : 0 < k) : (xs[k-1]).Day < xs[k].Day := by
  simp only [vlVerified, Bool.and_eq_true, List.all_eq_true, List.mem_range] at h
  have := h.1 k hk
  simp only [atVerified, hk, dite_true, Bool.and_eq_true, Bool.or_eq_true, decide_eq_true_eq, Bool.not_eq_true', decide_eq_false_iff_not] at this
  have h2 := this.2.resolve_left (by omega)
  omega
theorem days_lt {xs : List SVerified} (h : vlVerified xs = true) {i j : Nat} (hij : i < j) (hj : j < xs.length) : (xs[i]'(by omega)).Day < xs[j].Day := by
  obtain ⟨d, rfl⟩ := Nat.exists_eq_add_of_le (show i + 1 ≤ j by omega)
  induction d with
  | zero => exact days_lt1 h (k := i + 1) (by omega) (by omega)
  | succ d ih =>
    have h1 := ih (by omega) (by omega)
    have h2 := days_lt1 h (k := i + 1 + (d + 1)) hj (by omega)
    have e : i + 1 + (d + 1) - 1 = i + 1 + d := by omega
    simp only [e] at h2
    omega
theorem days_inj {xs : List SVerified} (h : vlVerified xs = true) {i j : Nat} (hi : i < xs.length) (hj : j < xs.length) (e : xs[i].Day = xs[j].Day) : i = j := by
  rcases Nat.lt_trichotomy i j with h1 | h1 | h1
  · have := days_lt h h1 hj; omega
  · exact h1
  · have := days_lt h h1 hi; omega
theorem mem_days {q : SVerified → Bool} {xs : List SVerified} (hv : vlVerified xs = true) {k : Nat} (hk : k < xs.length) : xs[k].Day ∈ daysTo q xs xs.length ↔ q xs[k] = true := by
  unfold daysTo
  rw [List.take_length, List.mem_map]
  constructor
  · rintro ⟨y, hy, e⟩
    rw [List.mem_filter] at hy
    obtain ⟨j, hj, rfl⟩ := List.getElem_of_mem hy.1
    have := days_inj hv hj hk e
    subst this
    exact hy.2
  · intro h
    exact ⟨xs[k], List.mem_filter.2 ⟨List.getElem_mem hk, h⟩, rfl⟩
theorem days_codes (q q' : SVerified → Bool) (l : Int) (xs : List SVerified) : (daysRes q l xs).2 = (daysRes q' l xs).2 := by
  cases hv : vlVerified xs
  · rw [daysRes_1 hv, daysRes_1 hv]
  · cases hl : inr 1 5 l
    · rw [daysRes_2 hv hl, daysRes_2 hv hl]
    · rw [daysRes_0 hv hl, daysRes_0 hv hl]
theorem days_cases (q : SVerified → Bool) (l : Int) (xs : List SVerified) : ((daysRes q l xs).2 = 0 ∧ vlVerified xs = true ∧ (daysRes q l xs).1 = daysTo q xs xs.length) ∨ ((daysRes q l xs).2 ≠ 0 ∧ (daysRes q l xs).1 = []) := by
  cases hv : vlVerified xs
  · rw [daysRes_1 hv]; exact Or.inr ⟨by decide, rfl⟩
  · cases hl : inr 1 5 l
    · rw [daysRes_2 hv hl]; exact Or.inr ⟨by decide, rfl⟩
    · rw [daysRes_0 hv hl]; exact Or.inl ⟨rfl, rfl, rfl⟩
/-- shares -/
theorem rdiv_mono {a a' b : Int} (hb : 0 < b) (h0 : 0 ≤ a) (h : a ≤ a') : rdiv a b ≤ rdiv a' b := by
  rw [rdiv, rdiv, if_neg (by omega), if_neg (by omega)]
  exact Int.ediv_le_ediv (by omega) (by omega)
theorem rdiv_share {c n : Int} (hn : 0 < n) (h0 : 0 ≤ c) (h : c ≤ n) : 0 ≤ rdiv (1000 * c) n ∧ rdiv (1000 * c) n ≤ 1000 := by
  rw [rdiv, if_neg (by omega)]
  refine ⟨Int.ediv_nonneg (by omega) (by omega), ?_⟩
  have : (2 * (1000 * c) + n) / (2 * n) < 1001 := by
    apply Int.ediv_lt_of_lt_mul (by omega)
    omega
  omega
theorem rdiv_near {a b : Int} (hb : 0 < b) (h0 : 0 ≤ a) : 2 * (rdiv a b * b - a) ≤ b ∧ 2 * (a - rdiv a b * b) ≤ b := by
  rw [rdiv, if_neg (by omega)]
  have h1 := Int.mul_ediv_add_emod (2 * a + b) (2 * b)
  have h2 := Int.emod_nonneg (2 * a + b) (show 2 * b ≠ 0 by omega)
  have h3 := Int.emod_lt_of_pos (2 * a + b) (show 0 < 2 * b by omega)
  generalize (2 * a + b) / (2 * b) = q at *
  have e : 2 * b * q = 2 * (q * b) := by rw [Int.mul_assoc, Int.mul_comm b q]
  rw [e] at h1
  omega
theorem cntV_mono {q q' : SVerified → Bool} {xs : List SVerified} (h : ∀ x, q x = true → q' x = true) : ∀ k, k ≤ xs.length → cntV q xs k ≤ cntV q' xs k
  | 0, _ => by simp [cntV]
  | k + 1, hk => by
    have hlt : k < xs.length := by omega
    have ih := cntV_mono (xs := xs) h k (by omega)
    cases h1 : q xs[k]
    · cases h2 : q' xs[k]
      · rw [cntV_no hlt h1, cntV_no hlt h2]; exact ih
      · rw [cntV_no hlt h1, cntV_yes hlt h2]; omega
    · rw [cntV_yes hlt h1, cntV_yes hlt (h _ h1)]; omega
theorem hit_ok {m : Int} {xs : List SVerified} (h : (hitRes m xs).2 = 0) : vlVerified xs = true ∧ 0 ≤ m ∧ m ≤ 4 ∧ 0 < xs.length ∧ (hitRes m xs).1 = rdiv (1000 * (cntV (qHit m) xs xs.length : Int)) (xs.length : Int) := by
  cases hv : vlVerified xs
  · rw [hitRes_1 hv] at h; cases h
  · cases hm : inr 0 4 m
    · rw [hitRes_2 hv hm] at h; cases h
    · by_cases h0 : xs.length = 0
      · rw [hitRes_3 hv hm h0] at h; cases h
      · rw [hitRes_0 hv hm h0]
        have := inr_bd' hm
        exact ⟨rfl, this.1, this.2, by omega, rfl⟩
theorem hit_bd (m : Int) (xs : List SVerified) : 0 ≤ (hitRes m xs).1 ∧ (hitRes m xs).1 ≤ 1000 ∧ ((hitRes m xs).2 = 0 → (hitRes (m + 1) xs).2 = 0 → (hitRes m xs).1 ≤ (hitRes (m + 1) xs).1) := by
  by_cases h : (hitRes m xs).2 = 0
  · obtain ⟨hv, h0, h1, hp, e⟩ := hit_ok h
    have hc := cntV_len (qHit m) xs xs.length
    have hs := rdiv_share (c := (cntV (qHit m) xs xs.length : Int)) (n := (xs.length : Int)) (by omega) (by omega) (by omega)
    rw [e]
    refine ⟨hs.1, hs.2, fun _ h2 => ?_⟩
    obtain ⟨-, -, -, -, e2⟩ := hit_ok h2
    rw [e2]
    have hm := cntV_mono (xs := xs) (q := qHit m) (q' := qHit (m + 1)) (fun x hx => by simp only [qHit, decide_eq_true_eq] at hx ⊢; omega) xs.length (Nat.le_refl _)
    exact rdiv_mono (by omega) (by omega) (by omega)
  · have e : (hitRes m xs).1 = 0 := by
      unfold hitRes at h ⊢
      repeat' split
      all_goals first | rfl | (rename_i a b c; simp [a, b, c] at h)
    rw [e]
    exact ⟨by omega, by omega, fun h2 => absurd h2 h⟩
/-- the table -/
def ind (b : Bool) : Nat := if b then 1 else 0
theorem cntL_ind {q : SVerified → Bool} {xs : List SVerified} {k : Nat} (hk : k < xs.length) : cntL q xs (k + 1) = cntL q xs k + ind (q xs[k]) := by
  cases h : q xs[k]
  · rw [cntL_no hk h]; rfl
  · rw [cntL_yes hk h]; rfl
theorem cntL_five {q q0 q1 q2 q3 q4 : SVerified → Bool} {xs : List SVerified} (h : ∀ i (hi : i < xs.length), ind (q xs[i]) = ind (q0 xs[i]) + ind (q1 xs[i]) + ind (q2 xs[i]) + ind (q3 xs[i]) + ind (q4 xs[i])) :
    ∀ k, k ≤ xs.length → cntL q xs k = cntL q0 xs k + cntL q1 xs k + cntL q2 xs k + cntL q3 xs k + cntL q4 xs k
  | 0, _ => by simp [cntL_0]
  | k + 1, hk => by
    have hlt : k < xs.length := by omega
    have ih := cntL_five h k (by omega)
    have := h k hlt
    rw [cntL_ind hlt, cntL_ind hlt, cntL_ind hlt, cntL_ind hlt, cntL_ind hlt, cntL_ind hlt]
    omega
theorem five_cases {n : Int} (h0 : 1 ≤ n) (h1 : n ≤ 5) : n = 1 ∨ n = 2 ∨ n = 3 ∨ n = 4 ∨ n = 5 := by omega
def qTold (t : Int) (x : SVerified) : Bool := x.Told == t
theorem row_sum {xs : List SVerified} (hv : vlVerified xs = true) (t : Int) : cntL (qTold t) xs xs.length = cntL (qTS t 1) xs xs.length + cntL (qTS t 2) xs xs.length + cntL (qTS t 3) xs xs.length + cntL (qTS t 4) xs xs.length + cntL (qTS t 5) xs xs.length := by
  refine cntL_five (fun i hi => ?_) _ (Nat.le_refl _)
  obtain ⟨-, -, b1, b2⟩ := okV_bd (vlVerified_ok hv i hi)
  by_cases ht : xs[i].Told = t
  · rcases five_cases b1 b2 with e | e | e | e | e <;> simp [qTold, qTS, ind, ht, e]
  · simp [qTold, qTS, ind, ht]
theorem all_sum {xs : List SVerified} (hv : vlVerified xs = true) : xs.length = cntL (qTold 1) xs xs.length + cntL (qTold 2) xs xs.length + cntL (qTold 3) xs xs.length + cntL (qTold 4) xs xs.length + cntL (qTold 5) xs xs.length := by
  have h := cntL_five (q := fun _ => true) (q0 := qTold 1) (q1 := qTold 2) (q2 := qTold 3) (q3 := qTold 4) (q4 := qTold 5) (xs := xs) (fun i hi => by
    obtain ⟨b1, b2, -, -⟩ := okV_bd (vlVerified_ok hv i hi)
    rcases five_cases b1 b2 with e | e | e | e | e <;> simp [qTold, ind, e]) xs.length (Nat.le_refl _)
  rw [← h, cntL, List.take_length, List.filter_eq_self.2 (fun _ _ => rfl)]
theorem diag_sum {xs : List SVerified} (hv : vlVerified xs = true) : cntL (qHit 0) xs xs.length = cntL (qTS 1 1) xs xs.length + cntL (qTS 2 2) xs xs.length + cntL (qTS 3 3) xs xs.length + cntL (qTS 4 4) xs xs.length + cntL (qTS 5 5) xs xs.length := by
  refine cntL_five (fun i hi => ?_) _ (Nat.le_refl _)
  obtain ⟨a1, a2, b1, b2⟩ := okV_bd (vlVerified_ok hv i hi)
  rcases five_cases a1 a2 with d | d | d | d | d <;> rcases five_cases b1 b2 with e | e | e | e | e <;> simp [qHit, qTS, ind, d, e] <;> decide
def tabS (xs : List SVerified) : Nat → Int
  | 0 => 0
  | k + 1 => tabS xs k + sumL id (tabRow xs xs.length k) (tabRow xs xs.length k).length
def tabH (xs : List SVerified) : Nat → Int
  | 0 => 0
  | k + 1 => tabH xs k + cTS xs xs.length k k
theorem sum_row (xs : List SVerified) (i : Nat) : sumL id (tabRow xs xs.length i) (tabRow xs xs.length i).length = cTS xs xs.length i 0 + cTS xs xs.length i 1 + cTS xs xs.length i 2 + cTS xs xs.length i 3 + cTS xs xs.length i 4 := by
  rw [tabRow_len]
  simp [sumL, tabRow]
theorem tab_S {xs : List SVerified} (hv : vlVerified xs = true) : tabS xs 5 = (xs.length : Int) := by
  have h1 := row_sum hv 1
  have h2 := row_sum hv 2
  have h3 := row_sum hv 3
  have h4 := row_sum hv 4
  have h5 := row_sum hv 5
  have h6 := all_sum hv
  have c : ∀ (i j : Nat) (a b : Int), (i : Int) + 1 = a → (j : Int) + 1 = b → cTS xs xs.length i j = (cntL (qTS a b) xs xs.length : Int) := fun i j a b ha hb => by subst ha; subst hb; rfl
  simp only [tabS, sum_row]
  rw [c 0 0 1 1 rfl rfl, c 0 1 1 2 rfl rfl, c 0 2 1 3 rfl rfl, c 0 3 1 4 rfl rfl, c 0 4 1 5 rfl rfl, c 1 0 2 1 rfl rfl, c 1 1 2 2 rfl rfl, c 1 2 2 3 rfl rfl, c 1 3 2 4 rfl rfl, c 1 4 2 5 rfl rfl, c 2 0 3 1 rfl rfl, c 2 1 3 2 rfl rfl, c 2 2 3 3 rfl rfl, c 2 3 3 4 rfl rfl, c 2 4 3 5 rfl rfl, c 3 0 4 1 rfl rfl, c 3 1 4 2 rfl rfl, c 3 2 4 3 rfl rfl, c 3 3 4 4 rfl rfl, c 3 4 4 5 rfl rfl, c 4 0 5 1 rfl rfl, c 4 1 5 2 rfl rfl, c 4 2 5 3 rfl rfl, c 4 3 5 4 rfl rfl, c 4 4 5 5 rfl rfl]
  omega
theorem tab_H {xs : List SVerified} (hv : vlVerified xs = true) : tabH xs 5 = (cntV (qHit 0) xs xs.length : Int) := by
  have h1 := diag_sum hv
  have e : cntV (qHit 0) xs xs.length = cntL (qHit 0) xs xs.length := rfl
  rw [e, h1]
  have c : ∀ (i j : Nat) (a b : Int), (i : Int) + 1 = a → (j : Int) + 1 = b → cTS xs xs.length i j = (cntL (qTS a b) xs xs.length : Int) := fun i j a b ha hb => by subst ha; subst hb; rfl
  simp only [tabH]
  rw [c 0 0 1 1 rfl rfl, c 1 1 2 2 rfl rfl, c 2 2 3 3 rfl rfl, c 3 3 4 4 rfl rfl, c 4 4 5 5 rfl rfl]
  omega
theorem tab_bd {xs : List SVerified} (hl : xs.length ≤ 64) : ∀ k, k ≤ 5 → 0 ≤ tabS xs k ∧ tabS xs k ≤ 320 * k ∧ 0 ≤ tabH xs k ∧ tabH xs k ≤ 64 * k
  | 0, _ => by simp [tabS, tabH]
  | k + 1, hk => by
    have ih := tab_bd hl k (by omega)
    have e := sum_row xs k
    have a0 := cTS_bd xs xs.length k 0
    have a1 := cTS_bd xs xs.length k 1
    have a2 := cTS_bd xs xs.length k 2
    have a3 := cTS_bd xs xs.length k 3
    have a4 := cTS_bd xs xs.length k 4
    have a5 := cTS_bd xs xs.length k k
    rw [tabS, tabH, e]
    omega
theorem tab_row_bd {xs : List SVerified} (hl : xs.length ≤ 64) (i : Nat) : ∀ x ∈ tabRow xs xs.length i, 0 ≤ x ∧ x ≤ 1000 := by
  intro x hx
  simp only [tabRow, List.mem_map] at hx
  obtain ⟨j, _, rfl⟩ := hx
  have := cTS_bd xs xs.length i j
  omega
/-- tables count all days, the share of exact hits is the rounded one -/
theorem tab_law {xs : List SVerified} (h : (hitRes 0 xs).2 = 0) : ¬ (xs.length : Int) < max ((hitRes 0 xs).1 * (xs.length : Int) - 1000 * tabH xs 5) (-((hitRes 0 xs).1 * (xs.length : Int) - 1000 * tabH xs 5)) * 2 := by
  obtain ⟨hv, -, -, hp, e⟩ := hit_ok h
  rw [tab_H hv, e]
  have := rdiv_near (a := 1000 * (cntV (qHit 0) xs xs.length : Int)) (b := (xs.length : Int)) (by omega) (by omega)
  omega
theorem tb_ok {xs : List SVerified} (h : (tbRes xs).2 = 0) : vlVerified xs = true ∧ (tbRes xs).1.length = 5 ∧ ∀ i, i < 5 → getF (tbRes xs).1 i = tabRow xs xs.length i := by
  cases hv : vlVerified xs
  · rw [tbRes_1 hv] at h; cases h
  · rw [tbRes_0 hv]
    exact ⟨rfl, by simp [tabL], fun i hi => tabL_get hi⟩
end Go.Proofs.Ytcjalooaikfkbaa
