/- Chapter 4: observations; plain part. -/
import Derived.Test.YtcjalooaikfkbaaTypes
import Derived.Test.YtcjalooaikfkbaaLst
namespace Go.Proofs.Ytcjalooaikfkbaa
set_option linter.unusedSimpArgs false
set_option linter.unusedVariables false
open Go.RowKit
set_option maxHeartbeats 400000
def okObserved (x : SObserved) : Bool := inr 0 100000 x.Hour && inr 0 2000 x.Snow && inr (-5000) 5000 x.Degrees && inr 0 10000 x.Wind
theorem okObserved_bd {x : SObserved} (h : okObserved x = true) : 0 ≤ x.Hour ∧ x.Hour ≤ 100000 ∧ 0 ≤ x.Snow ∧ x.Snow ≤ 2000 ∧ -5000 ≤ x.Degrees ∧ x.Degrees ≤ 5000 ∧ 0 ≤ x.Wind ∧ x.Wind ≤ 10000 := by simp [okObserved, inr] at h; omega
def atObserved (xs : List SObserved) (i : Nat) : Bool := if h : i < xs.length then okObserved xs[i] && (decide (i = 0) || !decide ((xs[i]).Hour ≤ (xs[i-1]).Hour)) else false
def vlObserved (xs : List SObserved) : Bool := (List.range xs.length).all (atObserved xs) && decide (xs.length ≤ 48)
theorem vlObserved_no {xs : List SObserved} {k : Nat} (hk : k < xs.length) (h : atObserved xs k = false) : vlObserved xs = false := by unfold vlObserved; rw [all_range_no hk h, Bool.false_and]
theorem atObserved_bad {xs : List SObserved} {k : Nat} (hk : k < xs.length) (hv : okObserved xs[k] = false) : atObserved xs k = false := by simp [atObserved, hk, hv]
theorem atObserved_0 {xs : List SObserved} {k : Nat} (hk : k < xs.length) (hv : okObserved xs[k] = true) (h0 : k = 0) : atObserved xs k = true := by subst h0; simp [atObserved, hk, hv]
theorem atObserved_ok {xs : List SObserved} {k : Nat} (hk : k < xs.length) (hv : okObserved xs[k] = true) (hc : decide ((xs[k]).Hour ≤ (xs[k-1]).Hour) = false) : atObserved xs k = true := by rw [atObserved, dif_pos hk, hv, hc, Bool.true_and, Bool.not_false, Bool.or_true]
theorem atObserved_no {xs : List SObserved} {k : Nat} (hk : k < xs.length) (h0 : 0 < k) (hc : decide ((xs[k]).Hour ≤ (xs[k-1]).Hour) = true) : atObserved xs k = false := by rw [atObserved, dif_pos hk, hc, decide_eq_false (show ¬ k = 0 by omega), Bool.not_true, Bool.or_false, Bool.and_false]
theorem vlObserved_len {xs : List SObserved} (h : vlObserved xs = true) : xs.length ≤ 48 := by simp only [vlObserved, Bool.and_eq_true, decide_eq_true_eq] at h; exact h.2
theorem vlObserved_ok {xs : List SObserved} (h : vlObserved xs = true) : ∀ k (hk : k < xs.length), okObserved xs[k] = true := fun k hk => by
  simp only [vlObserved, Bool.and_eq_true, List.all_eq_true, List.mem_range] at h; have := h.1 k hk; simp only [atObserved, hk, dite_true, Bool.and_eq_true] at this; exact this.1
theorem hours_lt1 {xs : List SObserved} (h : vlObserved xs = true) {k : Nat} (hk : k < xs.length) (h0 : 0 < k) : (xs[k-1]).Hour < xs[k].Hour := by
  simp only [vlObserved, Bool.and_eq_true, List.all_eq_true, List.mem_range] at h
  have := h.1 k hk
  simp only [atObserved, hk, dite_true, Bool.and_eq_true, Bool.or_eq_true, decide_eq_true_eq, Bool.not_eq_true', decide_eq_false_iff_not] at this
  have h2 := this.2.resolve_left (by omega)
  omega
theorem hours_lt {xs : List SObserved} (h : vlObserved xs = true) {i j : Nat} (hij : i < j) (hj : j < xs.length) : (xs[i]'(by omega)).Hour < xs[j].Hour := by
  obtain ⟨d, rfl⟩ := Nat.exists_eq_add_of_le (show i + 1 ≤ j by omega)
  induction d with
  | zero => exact hours_lt1 h (k := i + 1) (by omega) (by omega)
  | succ d ih =>
    have h1 := ih (by omega) (by omega)
    have h2 := hours_lt1 h (k := i + 1 + (d + 1)) hj (by omega)
    have e : i + 1 + (d + 1) - 1 = i + 1 + d := by omega
    simp only [e] at h2
    omega
def qLow (h : Int) (x : SObserved) : Bool := decide (x.Hour < h)
/-- how many observations come before an hour -/
def posL (xs : List SObserved) (h : Int) : Nat := cntL (qLow h) xs xs.length
theorem pos_of {xs : List SObserved} {h : Int} {p : Nat} (hp : p ≤ xs.length) (h1 : ∀ m (hm : m < xs.length), m < p → xs[m].Hour < h) (h2 : ∀ m (hm : m < xs.length), p ≤ m → h ≤ xs[m].Hour) : posL xs h = p := by
  have key : ∀ k, k ≤ xs.length → cntL (qLow h) xs k = min k p := by
    intro k
    induction k with
    | zero => intro _; simp [cntL]
    | succ k ih =>
      intro hk
      have hlt : k < xs.length := by omega
      by_cases hkp : k < p
      · rw [cntL_yes hlt (decide_eq_true (h1 k hlt hkp)), ih (by omega)]; omega
      · rw [cntL_no hlt (decide_eq_false (by have := h2 k hlt (by omega); omega)), ih (by omega)]; omega
  rw [posL, key _ (Nat.le_refl _)]; omega
theorem pos_spec {xs : List SObserved} (hv : vlObserved xs = true) (h : Int) : posL xs h ≤ xs.length ∧ (∀ m (hm : m < xs.length), m < posL xs h → xs[m].Hour < h) ∧ (∀ m (hm : m < xs.length), posL xs h ≤ m → h ≤ xs[m].Hour) := by
  -- the first place whose hour is not less
  have hex : ∃ p, p ≤ xs.length ∧ (∀ m (hm : m < xs.length), m < p → xs[m].Hour < h) ∧ (∀ m (hm : m < xs.length), p ≤ m → h ≤ xs[m].Hour) := by
    have : ∀ k, k ≤ xs.length → (∀ m (hm : m < xs.length), m < k → xs[m].Hour < h) ∨ ∃ p, p ≤ xs.length ∧ (∀ m (hm : m < xs.length), m < p → xs[m].Hour < h) ∧ (∀ m (hm : m < xs.length), p ≤ m → h ≤ xs[m].Hour) := by
      intro k
      induction k with
      | zero => intro _; exact Or.inl fun m _ hm => absurd hm (Nat.not_lt_zero m)
      | succ k ih =>
        intro hk
        rcases ih (by omega) with h1 | h1
        · by_cases hq : (xs[k]'(by omega)).Hour < h
          · refine Or.inl fun m hm hmk => ?_
            by_cases e : m = k
            · subst e; exact hq
            · exact h1 m hm (by omega)
          · refine Or.inr ⟨k, by omega, h1, fun m hm hkm => ?_⟩
            by_cases e : m = k
            · subst e; omega
            · have := hours_lt hv (i := k) (j := m) (by omega) hm; omega
        · exact Or.inr h1
    rcases this xs.length (Nat.le_refl _) with h1 | h1
    · exact ⟨xs.length, Nat.le_refl _, fun m hm _ => h1 m hm hm, fun m hm hp => absurd hp (by omega)⟩
    · exact h1
  obtain ⟨p, a, b, c⟩ := hex
  rw [pos_of a b c]
  exact ⟨a, b, c⟩
def hasL (xs : List SObserved) (h : Int) : Bool := match xs[posL xs h]? with
  | some x => x.Hour == h
  | none => false
theorem has_at {xs : List SObserved} {h : Int} {p : Nat} (hp : posL xs h = p) (hlt : p < xs.length) : hasL xs h = (xs[p].Hour == h) := by rw [hasL, hp, List.getElem?_eq_getElem hlt]
theorem has_end {xs : List SObserved} {h : Int} {p : Nat} (hp : posL xs h = p) (hlt : ¬ p < xs.length) : hasL xs h = false := by rw [hasL, hp, List.getElem?_eq_none (by omega)]
/-- some observation has the hour just if the one at the place has it -/
theorem has_any {xs : List SObserved} (hv : vlObserved xs = true) (h : Int) : hasL xs h = anyL (fun x => x.Hour == h) xs xs.length := by
  obtain ⟨a, b, c⟩ := pos_spec hv h
  cases hh : anyL (fun x => x.Hour == h) xs xs.length
  · rw [anyL, List.take_length, List.any_eq_false] at hh
    by_cases hlt : posL xs h < xs.length
    · rw [has_at rfl hlt]
      have := hh _ (List.getElem_mem hlt)
      simpa using this
    · exact has_end rfl hlt
  · rw [anyL, List.take_length, List.any_eq_true] at hh
    obtain ⟨x, hx, he⟩ := hh
    obtain ⟨k, hk, rfl⟩ := List.getElem_of_mem hx
    have he' : xs[k].Hour = h := by simpa using he
    have h1 : ¬ k < posL xs h := fun hl => by have := b k hk hl; omega
    have hlt : posL xs h < xs.length := by omega
    rw [has_at rfl hlt]
    have h2 := c _ hlt (Nat.le_refl _)
    by_cases e : k = posL xs h
    · have e2 : xs[posL xs h] = xs[k] := by congr 1; exact e.symm
      rw [beq_iff_eq, e2]; exact he'
    · have := hours_lt hv (i := posL xs h) (j := k) (by omega) hk; omega
end Go.Proofs.Ytcjalooaikfkbaa
