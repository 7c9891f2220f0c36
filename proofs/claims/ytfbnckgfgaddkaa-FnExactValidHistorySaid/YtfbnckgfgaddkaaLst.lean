/- Counts and sums over the first elements of a list. No program in sight. -/
import Derived.Test.YtfbnckgfgaddkaaBase
namespace Go.Proofs.Ytfbnckgfgaddkaa
set_option linter.unusedSimpArgs false
set_option linter.unusedVariables false
/-- How many of the first k elements have a property. -/
def cntL {α : Type} (q : α → Bool) (xs : List α) (k : Nat) : Nat := ((xs.take k).filter q).length
theorem cntL_0 {α : Type} (q : α → Bool) (xs : List α) : cntL q xs 0 = 0 := by simp [cntL]
theorem cntL_yes {α : Type} {q : α → Bool} {xs : List α} {k : Nat} (hk : k < xs.length) (h : q xs[k] = true) : cntL q xs (k + 1) = cntL q xs k + 1 := by
  unfold cntL; rw [List.take_succ_eq_append_getElem hk, List.filter_append, List.length_append]; simp [h]
theorem cntL_no {α : Type} {q : α → Bool} {xs : List α} {k : Nat} (hk : k < xs.length) (h : q xs[k] = false) : cntL q xs (k + 1) = cntL q xs k := by
  unfold cntL; rw [List.take_succ_eq_append_getElem hk, List.filter_append, List.length_append]; simp [h]
theorem cntL_le {α : Type} (q : α → Bool) (xs : List α) (k : Nat) : cntL q xs k ≤ k := by
  have h1 := List.length_filter_le q (xs.take k)
  have h2 := List.length_take_le k xs
  unfold cntL
  omega
/-- The sum of f over the first k elements. -/
def sumL {α : Type} (f : α → Int) (xs : List α) : Nat → Int
  | 0 => 0
  | k + 1 => sumL f xs k + if h : k < xs.length then f xs[k] else 0
theorem sumL_at {α : Type} {f : α → Int} {xs : List α} {k : Nat} (hk : k < xs.length) : sumL f xs (k + 1) = sumL f xs k + f xs[k] := by rw [sumL, dif_pos hk]
theorem sumL_bd {α : Type} {f : α → Int} {xs : List α} {M : Int} (hM : 0 ≤ M) (h : ∀ i (hi : i < xs.length), 0 ≤ f xs[i] ∧ f xs[i] ≤ M) (k : Nat) : 0 ≤ sumL f xs k ∧ sumL f xs k ≤ M * k := by
  induction k with
  | zero => simp [sumL]
  | succ k ih =>
    have e : M * ((k + 1 : Nat) : Int) = M * (k : Int) + M := by rw [Int.natCast_succ, Int.mul_add, Int.mul_one]
    simp only [sumL]
    split
    · rename_i hk
      have := h k hk
      omega
    · omega
theorem sumL_le {α : Type} {f g : α → Int} {xs : List α} (h : ∀ i (hi : i < xs.length), f xs[i] ≤ g xs[i]) (k : Nat) : sumL f xs k ≤ sumL g xs k := by
  induction k with
  | zero => simp [sumL]
  | succ k ih =>
    simp only [sumL]
    split
    · rename_i hk
      have := h k hk
      omega
    · omega
/-- The places below k whose element has a property. -/
def idxL {α : Type} (q : α → Bool) (xs : List α) : Nat → List Int
  | 0 => []
  | k + 1 => if h : k < xs.length then (if q xs[k] then idxL q xs k ++ [(k : Int)] else idxL q xs k) else idxL q xs k
theorem idxL_yes {α : Type} {q : α → Bool} {xs : List α} {k : Nat} (hk : k < xs.length) (h : q xs[k] = true) : idxL q xs (k + 1) = idxL q xs k ++ [(k : Int)] := by rw [idxL, dif_pos hk, if_pos h]
theorem idxL_no {α : Type} {q : α → Bool} {xs : List α} {k : Nat} (hk : k < xs.length) (h : q xs[k] = false) : idxL q xs (k + 1) = idxL q xs k := by rw [idxL, dif_pos hk, if_neg (by rw [h]; simp)]
theorem idxL_len {α : Type} (q : α → Bool) (xs : List α) (k : Nat) : (idxL q xs k).length ≤ k := by
  induction k with
  | zero => simp [idxL]
  | succ k ih =>
    simp only [idxL]
    repeat' split
    all_goals (first | (rw [List.length_append]; simp; omega) | omega)
/-- The place of the best of the first k elements, the first of them: better a b says that a is better than b. -/
def bestL {α : Type} (better : α → α → Bool) (xs : List α) : Nat → Nat
  | 0 => 0
  | k + 1 => match xs[k]?, xs[bestL better xs k]? with
    | some a, some b => if better a b then k else bestL better xs k
    | _, _ => bestL better xs k
theorem bestL_yes {α : Type} {better : α → α → Bool} {xs : List α} {k m : Nat} (hk : k < xs.length) (hm : bestL better xs k = m) (hmm : m < xs.length) (h : better xs[k] xs[m] = true) : bestL better xs (k + 1) = k := by
  rw [bestL, hm, List.getElem?_eq_getElem hk, List.getElem?_eq_getElem hmm]; exact if_pos h
theorem bestL_no {α : Type} {better : α → α → Bool} {xs : List α} {k m : Nat} (hk : k < xs.length) (hm : bestL better xs k = m) (hmm : m < xs.length) (h : better xs[k] xs[m] = false) : bestL better xs (k + 1) = m := by
  rw [bestL, hm, List.getElem?_eq_getElem hk, List.getElem?_eq_getElem hmm]; exact if_neg (by rw [h]; simp)
/-- f of those of the first k elements that have a property. -/
def selL {α β : Type} (q : α → Bool) (f : α → β) (xs : List α) (k : Nat) : List β := ((xs.take k).filter q).map f
theorem selL_yes {α β : Type} {q : α → Bool} {f : α → β} {xs : List α} {k : Nat} (hk : k < xs.length) (h : q xs[k] = true) : selL q f xs (k + 1) = selL q f xs k ++ [f xs[k]] := by
  unfold selL; rw [List.take_succ_eq_append_getElem hk, List.filter_append, List.map_append]; simp [h]
theorem selL_no {α β : Type} {q : α → Bool} {f : α → β} {xs : List α} {k : Nat} (hk : k < xs.length) (h : q xs[k] = false) : selL q f xs (k + 1) = selL q f xs k := by
  unfold selL; rw [List.take_succ_eq_append_getElem hk, List.filter_append, List.map_append]; simp [h]
theorem selL_len {α β : Type} (q : α → Bool) (f : α → β) (xs : List α) (k : Nat) : (selL q f xs k).length ≤ k := by
  unfold selL
  rw [List.length_map]
  have h1 := List.length_filter_le q (xs.take k)
  have h2 := List.length_take_le k xs
  omega
theorem selL_head {α β : Type} {q : α → Bool} {f : α → β} {xs : List α} {k : Nat} (hk : k < xs.length) (h0 : selL q f xs k = []) (h : q xs[k] = true) : (selL q f xs xs.length)[0]? = some (f xs[k]) := by
  have e : xs = xs.take k ++ (xs[k] :: xs.drop (k + 1)) := by rw [List.getElem_cons_drop, List.take_append_drop]
  have h1 : (xs.take k).filter q = [] := by simpa [selL] using h0
  unfold selL
  rw [List.take_length]
  have h2 : xs.filter q = xs[k] :: (xs.drop (k + 1)).filter q := by
    conv => lhs; rw [e]
    rw [List.filter_append, h1, List.nil_append, List.filter_cons_of_pos h]
  rw [h2]; rfl
def anyL {α : Type} (q : α → Bool) (xs : List α) (k : Nat) : Bool := (xs.take k).any q
theorem anyL_step {α : Type} {q : α → Bool} {xs : List α} {k : Nat} (hk : k < xs.length) : anyL q xs (k + 1) = (anyL q xs k || q xs[k]) := by
  unfold anyL; rw [List.take_succ_eq_append_getElem hk, List.any_append]; simp
theorem anyL_sel {α β : Type} (q : α → Bool) (f : α → β) (xs : List α) (k : Nat) : decide (0 < (selL q f xs k).length) = anyL q xs k := by
  unfold selL anyL
  rw [List.length_map]
  induction xs.take k with
  | nil => rfl
  | cons x r ih => cases h : q x <;> simp [h] at ih ⊢; exact ih
/-- the numbers a, a + 1, .., n of them, that have a property -/
def numL (q : Int → Bool) (a : Int) (n : Nat) : List Int := ((List.range n).map fun i : Nat => a + (i : Int)).filter q
theorem numL_yes {q : Int → Bool} {a : Int} {n : Nat} (h : q (a + (n : Int)) = true) : numL q a (n + 1) = numL q a n ++ [a + (n : Int)] := by
  unfold numL; rw [List.range_succ, List.map_append, List.filter_append]; simp [h]
theorem numL_no {q : Int → Bool} {a : Int} {n : Nat} (h : q (a + (n : Int)) = false) : numL q a (n + 1) = numL q a n := by
  unfold numL; rw [List.range_succ, List.map_append, List.filter_append]; simp [h]
theorem numL_le {q : Int → Bool} {a : Int} {n m : Nat} (h : n ≤ m) : (numL q a n).length ≤ (numL q a m).length := by
  obtain ⟨d, rfl⟩ := Nat.exists_eq_add_of_le h
  induction d with
  | zero => exact Nat.le_refl _
  | succ d ih =>
    rw [show n + (d + 1) = (n + d) + 1 by omega]
    cases hq : q (a + ((n + d : Nat) : Int))
    · rw [numL_no hq]; exact ih (by omega)
    · rw [numL_yes hq, List.length_append]; have := ih (by omega); omega
def hasG {α : Type} (q : α → Bool) (xs : List α) (i : Nat) : Bool := if h : i < xs.length then q xs[i] else false
theorem hasG_at {α : Type} {q : α → Bool} {xs : List α} {k : Nat} (h : k < xs.length) : hasG q xs k = q xs[k] := by rw [hasG, dif_pos h]
/-- the first place with a property, or -1 -/
def idxG {α : Type} (q : α → Bool) (xs : List α) : Int := match fst (hasG q xs) xs.length with
  | some k => k
  | none => -1
theorem idxG_none {α : Type} {q : α → Bool} {xs : List α} (h : ∀ j, j < xs.length → hasG q xs j = false) : idxG q xs = -1 := by rw [idxG, fst_none h]
theorem idxG_some {α : Type} {q : α → Bool} {xs : List α} {k : Nat} (hk : k < xs.length) (h : ∀ j, j < k → hasG q xs j = false) (hp : hasG q xs k = true) : idxG q xs = k := by rw [idxG, fst_some hk h hp]
theorem idxG_any {α : Type} (q : α → Bool) (xs : List α) : decide (0 ≤ idxG q xs) = xs.any q := by
  cases hx : xs.any q
  · rw [List.any_eq_false] at hx
    rw [idxG_none fun j hj => by rw [hasG_at hj]; simpa using hx _ (List.getElem_mem hj)]; rfl
  · have : ∃ k, k < xs.length ∧ hasG q xs k = true := by
      rw [List.any_eq_true] at hx
      obtain ⟨x, hm, hq⟩ := hx
      obtain ⟨k, hk, rfl⟩ := List.getElem_of_mem hm
      exact ⟨k, hk, by rw [hasG_at hk]; exact hq⟩
    cases hf : fst (hasG q xs) xs.length with
    | some k => rw [idxG, hf]; simp
    | none =>
      obtain ⟨k, hk, hq⟩ := this
      unfold fst at hf
      rw [List.find?_eq_none] at hf
      exact absurd hq (hf k (List.mem_range.2 hk))
theorem inr_bd' {lo hi n : Int} (h : inr lo hi n = true) : lo ≤ n ∧ n ≤ hi := by simp [inr] at h; omega
theorem not_t {a : Bool} (h : (!a) = true) : a = false := by simpa using h
theorem not_f {a : Bool} (h : (!a) = false) : a = true := by simpa using h
end Go.Proofs.Ytfbnckgfgaddkaa
