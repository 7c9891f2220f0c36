/- slices.ContainsFunc over integers, and the program's allWithin. -/
import Derived.Test.YtocipeididkllaaCom
namespace Go.Proofs.Ytocipeididkllaa
set_option linter.unusedSimpArgs false
set_option linter.unusedVariables false
open Go.RowKit
set_option maxHeartbeats 400000
def hasAt (q : Int → Bool) (xs : List Int) (i : Nat) : Bool := if h : i < xs.length then q xs[i] else false
theorem hasAt_at {q : Int → Bool} {xs : List Int} {k : Nat} (h : k < xs.length) : hasAt q xs k = q xs[k] := by rw [hasAt, dif_pos h]
def idxOf (q : Int → Bool) (xs : List Int) : Int := match fst (hasAt q xs) xs.length with
  | some k => k
  | none => -1
theorem idxOf_none {q : Int → Bool} {xs : List Int} (h : ∀ j, j < xs.length → hasAt q xs j = false) : idxOf q xs = -1 := by rw [idxOf, fst_none h]
theorem idxOf_some {q : Int → Bool} {xs : List Int} {k : Nat} (hk : k < xs.length) (h : ∀ j, j < k → hasAt q xs j = false) (hp : hasAt q xs k = true) : idxOf q xs = k := by rw [idxOf, fst_some hk h hp]
theorem idxOf_any (q : Int → Bool) (xs : List Int) : decide (0 ≤ idxOf q xs) = xs.any q := by
  cases hx : xs.any q
  · rw [List.any_eq_false] at hx
    rw [idxOf_none fun j hj => by rw [hasAt_at hj]; simpa using hx _ (List.getElem_mem hj)]; rfl
  · have : ∃ k, k < xs.length ∧ hasAt q xs k = true := by
      rw [List.any_eq_true] at hx
      obtain ⟨x, hm, hq⟩ := hx
      obtain ⟨k, hk, rfl⟩ := List.getElem_of_mem hm
      exact ⟨k, hk, by rw [hasAt_at hk]; exact hq⟩
    cases hf : fst (hasAt q xs) xs.length with
    | some k => rw [idxOf, hf]; simp
    | none =>
      obtain ⟨k, hk, hq⟩ := this
      unfold fst at hf
      rw [List.find?_eq_none] at hf
      exact absurd hq (hf k (List.mem_range.2 hk))
def allIn (lo hi : Int) (xs : List Int) : Bool := xs.all (inr lo hi)
theorem allIn_any (lo hi : Int) (xs : List Int) : (!(xs.any fun n => !inr lo hi n)) = allIn lo hi xs := by
  unfold allIn
  induction xs with
  | nil => rfl
  | cons x r ih => simp only [List.any_cons, List.all_cons, ← ih]; cases inr lo hi x <;> simp
end Go.Proofs.Ytocipeididkllaa
