/- Chapter 25: search for victims. -/
import Derived.Test.YtdkiahlpajgekaaDoorNam
namespace Go.Proofs.YtdkiahlpajgekaaDoor
set_option linter.unusedSimpArgs false
set_option linter.unusedVariables false
open Go.RowKit
set_option maxHeartbeats 400000
def okArea (x : SArea) : Bool := isName x.Id && inr 0 1000 x.Chance && inr 1 600 x.Minutes
def atArea (xs : List SArea) (i : Nat) : Bool := if h : i < xs.length then okArea xs[i] && (decide (i = 0) || !strLe (xs[i]).Id (xs[i-1]).Id) else false
def vlArea (xs : List SArea) : Bool := (List.range xs.length).all (atArea xs) && decide (xs.length ≤ 8)
theorem vlArea_no {xs : List SArea} {k : Nat} (hk : k < xs.length) (h : atArea xs k = false) : vlArea xs = false := by unfold vlArea; rw [all_range_no hk h, Bool.false_and]
theorem atArea_bad {xs : List SArea} {k : Nat} (hk : k < xs.length) (hv : okArea xs[k] = false) : atArea xs k = false := by simp [atArea, hk, hv]
theorem atArea_0 {xs : List SArea} {k : Nat} (hk : k < xs.length) (hv : okArea xs[k] = true) (h0 : k = 0) : atArea xs k = true := by subst h0; simp [atArea, hk, hv]
theorem atArea_ok {xs : List SArea} {k : Nat} (hk : k < xs.length) (hv : okArea xs[k] = true) (hc : strLe (xs[k]).Id (xs[k-1]).Id = false) : atArea xs k = true := by rw [atArea, dif_pos hk, hv, hc, Bool.true_and, Bool.not_false, Bool.or_true]
theorem atArea_no {xs : List SArea} {k : Nat} (hk : k < xs.length) (h0 : 0 < k) (hc : strLe (xs[k]).Id (xs[k-1]).Id = true) : atArea xs k = false := by rw [atArea, dif_pos hk, hc, decide_eq_false (show ¬ k = 0 by omega), Bool.not_true, Bool.or_false, Bool.and_false]
theorem vlArea_len {xs : List SArea} (h : vlArea xs = true) : xs.length ≤ 8 := by simp only [vlArea, Bool.and_eq_true, decide_eq_true_eq] at h; exact h.2
theorem vlArea_ok {xs : List SArea} (h : vlArea xs = true) : ∀ k (hk : k < xs.length), okArea xs[k] = true := fun k hk => by
  simp only [vlArea, Bool.and_eq_true, List.all_eq_true, List.mem_range] at h; have := h.1 k hk; simp only [atArea, hk, dite_true, Bool.and_eq_true] at this; exact this.1
def fdAreaChance (xs : List SArea) (i : Nat) : Int := if h : i < xs.length then xs[i].Chance else 0
theorem fdAreaChance_at {xs : List SArea} {k : Nat} (h : k < xs.length) : fdAreaChance xs k = xs[k].Chance := by rw [fdAreaChance, dif_pos h]
theorem okArea_Chance {x : SArea} (h : okArea x = true) : 0 ≤ x.Chance ∧ x.Chance ≤ 1000 := by simp [okArea, inr] at h; omega
theorem bdAreaChance_upto {xs : List SArea} {k : Nat} (h : (List.range k).all (atArea xs) = true) : ∀ i, i < k → 0 ≤ fdAreaChance xs i ∧ fdAreaChance xs i ≤ 1000 := fun i hi => by
  have h1 := List.all_eq_true.1 h i (List.mem_range.2 hi)
  unfold atArea at h1
  split at h1
  · rename_i hlt
    rw [fdAreaChance_at hlt]
    simp only [Bool.and_eq_true] at h1
    have h2 := h1.1
    simp [okArea, inr] at h2
    omega
  · exact absurd h1 (by decide)
def fdAreaMinutes (xs : List SArea) (i : Nat) : Int := if h : i < xs.length then xs[i].Minutes else 0
theorem fdAreaMinutes_at {xs : List SArea} {k : Nat} (h : k < xs.length) : fdAreaMinutes xs k = xs[k].Minutes := by rw [fdAreaMinutes, dif_pos h]
theorem okArea_Minutes {x : SArea} (h : okArea x = true) : 0 ≤ x.Minutes ∧ x.Minutes ≤ 600 := by simp [okArea, inr] at h; omega
theorem bdAreaMinutes_upto {xs : List SArea} {k : Nat} (h : (List.range k).all (atArea xs) = true) : ∀ i, i < k → 0 ≤ fdAreaMinutes xs i ∧ fdAreaMinutes xs i ≤ 600 := fun i hi => by
  have h1 := List.all_eq_true.1 h i (List.mem_range.2 hi)
  unfold atArea at h1
  split at h1
  · rename_i hlt
    rw [fdAreaMinutes_at hlt]
    simp only [Bool.and_eq_true] at h1
    have h2 := h1.1
    simp [okArea, inr] at h2
    omega
  · exact absurd h1 (by decide)
theorem validArea_any (x : SArea) (w : World) (hs : x.Id.size ≤ 9223372036854775807) : Calls Tryd.prog 10 #[.agg #[.string x.Id, .int .i64 x.Chance, .int .i64 x.Minutes]] w fun e w' => e = .returned (.bool (okArea x)) ∧ Below w.heap.size w w' := by
  go_enter Tryd.func10, Tryd.ntmps10
  go_wp2_with (first | (go_at_call 15; refine (IsName_any _ _ hs).mono ?_; rintro e w' ⟨rfl, rfl⟩) | (go_at_call 16; refine (within_any _ _ _ _).mono ?_; rintro e w' ⟨rfl, rfl⟩))
  all_goals
    go_ret
    exact ⟨ret_bool (by simp [okArea, *]), (by repeat (first | (with_reducible assumption) | (with_reducible exact Below.refl _ _) | (with_reducible refine Bel.alloc ?_ _) | (with_reducible refine Below.drew ?_) | (with_reducible refine Bel.drewN ?_ _) | (with_reducible refine Bel.setCell ?_ (by (try simp) <;> omega) _) | (with_reducible refine Bel.trans ?_ (by assumption))))⟩
theorem l25One_any (x : SArea) (b o : Nat) (w : World) (p0 : w.cell? ⟨b, o, none⟩ = some (.string x.Id)) (p1 : w.cell? ⟨b, o + 1, none⟩ = some (.int .i64 x.Chance)) (p2 : w.cell? ⟨b, o + 2, none⟩ = some (.int .i64 x.Minutes)) (hs : x.Id.size ≤ 9223372036854775807) :
    Calls Tryd.prog 8 #[.pointer (some ⟨b, o, none⟩)] w fun e w' => e = .returned (.bool (okArea x)) ∧ w = w' := by
  go_enter Tryd.func8, Tryd.ntmps8
  go_wp2_with (first | (go_at_call 12; refine (l01Name_any _ _ hs).mono ?_; rintro e w' ⟨rfl, rfl⟩) | (go_at_call 13; refine (l00In_any _ _ _ _).mono ?_; rintro e w' ⟨rfl, rfl⟩))
  all_goals
    go_ret
    exact ⟨ret_bool (by simp [okArea, *]), rfl⟩
end Go.Proofs.YtdkiahlpajgekaaDoor
