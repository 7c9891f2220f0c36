/- Chapter 22: plans of shots (plain). -/
import Derived.Test.YtocipeididkllaaL22b
import Derived.Test.YtocipeididkllaaApp
namespace Go.Proofs.Ytocipeididkllaa
set_option linter.unusedSimpArgs false
set_option linter.unusedVariables false
open Go.RowKit
set_option maxHeartbeats 400000
/-- the first of the least -/
def lsI (a b : Int) : Bool := decide (a < b)
def argm (f : List Int) (k : Nat) : Nat := bestL lsI f k
theorem argm_1 {f : List Int} (h : 0 < f.length) : argm f 1 = 0 := by
  have h0 : argm f 0 = 0 := rfl
  unfold argm at h0 ⊢
  exact bestL_no (m := 0) (k := 0) h h0 h (by simp [lsI])
theorem argm_yes {f : List Int} {k m : Nat} (hk : k < f.length) (hm : argm f k = m) (hmm : m < f.length) (h : f[k] < f[m]) : argm f (k + 1) = k := bestL_yes hk hm hmm (by simpa [lsI] using h)
theorem argm_no {f : List Int} {k m : Nat} (hk : k < f.length) (hm : argm f k = m) (hmm : m < f.length) (h : ¬ f[k] < f[m]) : argm f (k + 1) = m := bestL_no hk hm hmm (by simpa [lsI] using h)
theorem argm_spec {f : List Int} (h : 0 < f.length) : ∀ k, 1 ≤ k → k ≤ f.length → ∃ m, argm f k = m ∧ m < k ∧ ∃ hm : m < f.length, (∀ i (hi : i < f.length), i < k → f[m] ≤ f[i]) ∧ (∀ i (hi : i < f.length), i < m → f[m] < f[i]) := by
  intro k hk1 hk
  induction k with
  | zero => omega
  | succ k ih =>
    by_cases h1 : k = 0
    · subst h1
      exact ⟨0, argm_1 h, by omega, h, fun i hi hi1 => by have : i = 0 := by omega
                                                          subst this; exact Int.le_refl _, fun i _ h0 => absurd h0 (Nat.not_lt_zero i)⟩
    · obtain ⟨m, hm, hmk, hml, hle, hlt⟩ := ih (by omega) (by omega)
      have hkl : k < f.length := by omega
      by_cases hq : f[k] < f[m]
      · refine ⟨k, argm_yes hkl hm hml hq, by omega, hkl, fun i hi hik => ?_, fun i hi hik => ?_⟩
        · by_cases e : i = k
          · subst e; exact Int.le_refl _
          · have := hle i hi (by omega); omega
        · have := hle i hi hik; omega
      · refine ⟨m, argm_no hkl hm hml hq, by omega, hml, fun i hi hik => ?_, hlt⟩
        by_cases e : i = k
        · subst e; omega
        · exact hle i hi (by omega)
def fromA (xs : List SShot) (i : Nat) : Int := if h : i < xs.length then xs[i].From else 0
def minuA (xs : List SShot) (i : Nat) : Int := if h : i < xs.length then xs[i].Minutes else 0
def untlA (xs : List SShot) (i : Nat) : Int := if h : i < xs.length then xs[i].Until else 0
theorem fromA_at {xs : List SShot} {i : Nat} (h : i < xs.length) : fromA xs i = xs[i].From := by rw [fromA, dif_pos h]
theorem minuA_at {xs : List SShot} {i : Nat} (h : i < xs.length) : minuA xs i = xs[i].Minutes := by rw [minuA, dif_pos h]
theorem untlA_at {xs : List SShot} {i : Nat} (h : i < xs.length) : untlA xs i = xs[i].Until := by rw [untlA, dif_pos h]
def nthI (f : List Int) (i : Nat) : Int := if h : i < f.length then f[i] else 0
theorem nthI_at {f : List Int} {i : Nat} (h : i < f.length) : nthI f i = f[i] := by rw [nthI, dif_pos h]
/-- when the crews are free and the works, after k shots; none if one is too late -/
def plTo (xs : List SShot) (os : List Int) (n : Nat) : Nat → Option (List Int × List (Int × Int))
  | 0 => some (List.replicate n 0, [])
  | k + 1 => match plTo xs os n k with
    | none => none
    | some (f, ws) => if h : k < os.length then
        (if max (nthI f (argm f f.length)) (fromA xs os[k].toNat) + minuA xs os[k].toNat ≤ untlA xs os[k].toNat then
          some (f.set (argm f f.length) (max (nthI f (argm f f.length)) (fromA xs os[k].toNat) + minuA xs os[k].toNat), ws ++ [(max (nthI f (argm f f.length)) (fromA xs os[k].toNat), max (nthI f (argm f f.length)) (fromA xs os[k].toNat) + minuA xs os[k].toNat)])
        else none) else some (f, ws)
theorem plTo_yes {xs : List SShot} {os : List Int} {n k i m : Nat} {f : List Int} {ws : List (Int × Int)} (hp : plTo xs os n k = some (f, ws)) (hk : k < os.length) (hi : i < xs.length) (ho : os[k] = (i : Int)) (hm : argm f f.length = m) (hml : m < f.length) (h : max f[m] xs[i].From + xs[i].Minutes ≤ xs[i].Until) :
    plTo xs os n (k + 1) = some (f.set m (max f[m] xs[i].From + xs[i].Minutes), ws ++ [(max f[m] xs[i].From, max f[m] xs[i].From + xs[i].Minutes)]) := by
  rw [plTo, hp]
  simp only [dif_pos hk, ho, Int.toNat_natCast, hm, nthI_at hml, fromA_at hi, minuA_at hi, untlA_at hi, if_pos h]
theorem plTo_no {xs : List SShot} {os : List Int} {n k i m : Nat} {f : List Int} {ws : List (Int × Int)} (hp : plTo xs os n k = some (f, ws)) (hk : k < os.length) (hi : i < xs.length) (ho : os[k] = (i : Int)) (hm : argm f f.length = m) (hml : m < f.length) (h : ¬ max f[m] xs[i].From + xs[i].Minutes ≤ xs[i].Until) :
    plTo xs os n (k + 1) = none := by
  rw [plTo, hp]
  simp only [dif_pos hk, ho, Int.toNat_natCast, hm, nthI_at hml, fromA_at hi, minuA_at hi, untlA_at hi, if_neg h]
theorem plTo_none {xs : List SShot} {os : List Int} {n k : Nat} (hp : plTo xs os n k = none) : ∀ d, plTo xs os n (k + d) = none := by
  intro d
  induction d with
  | zero => exact hp
  | succ d ih => rw [← Nat.add_assoc, plTo, ih]
def plV (xs : List SShot) (os : List Int) (n : Nat) : Option (List (Int × Int)) := (plTo xs os n os.length).map Prod.snd
theorem plV_none {xs : List SShot} {os : List Int} {n k : Nat} (hk : k + 1 ≤ os.length) (hp : plTo xs os n (k + 1) = none) : plV xs os n = none := by
  have := plTo_none hp (os.length - (k + 1))
  rw [show k + 1 + (os.length - (k + 1)) = os.length by omega] at this
  rw [plV, this]; rfl
theorem plV_some {xs : List SShot} {os : List Int} {n : Nat} {f : List Int} {ws : List (Int × Int)} (hp : plTo xs os n os.length = some (f, ws)) : plV xs os n = some ws := by rw [plV, hp]; rfl
def pcode (xs : List SShot) (os : List Int) (n : Int) : Int := if askS xs os n = 0 then (match plV xs os n.toNat with | none => 6 | some _ => 0) else askS xs os n
def lastE : List (Int × Int) → Nat → Int
  | _, 0 => 0
  | ws, k + 1 => if h : k < ws.length then max (lastE ws k) ws[k].2 else lastE ws k
theorem lastE_at {ws : List (Int × Int)} {k : Nat} {m : Int} (hk : k < ws.length) (h : lastE ws k = m) : lastE ws (k + 1) = max m ws[k].2 := by rw [lastE, dif_pos hk, h]
def leRes (xs : List SShot) (os : List Int) (n : Int) : Int × Int := if askS xs os n = 0 then (match plV xs os n.toNat with | none => (0, 6) | some ws => (lastE ws ws.length, 0)) else (0, askS xs os n)
/-- the crews' times as the cells of a row -/
def frA (f : List Int) : Array Value := (f.map fun v => Value.int .i64 v).toArray
theorem frA_at {f : List Int} {i : Nat} (h : i < f.length) : (frA f)[i]? = some (.int .i64 f[i]) := by simp [frA, h]
theorem frA_set {f : List Int} {i : Nat} {v : Int} : (frA f).setIfInBounds i (.int .i64 v) = frA (f.set i v) := by simp [frA, List.map_set]
theorem fr_made (n : Nat) : madeCells (Value.int .i64 0).cells n = frA (List.replicate n 0) := by
  apply Array.ext_getElem?
  intro i
  show (madeCells #[Value.int .i64 0] n)[i]? = _
  by_cases hi : i < n
  · simp [madeCells, hi, Nat.mod_one, frA]
  · simp [madeCells, frA, hi]
theorem arr_frA {w : World} {g : Nat} {t : TypeId} {f : List Int} (B : Box t w g (frA f)) : Arr intc 1 w g f := by
  refine ⟨B.lt, fun i hi j v hv => ?_⟩
  have hj : j = 0 := by
    have := (List.getElem?_eq_some_iff.1 hv).1
    simpa [intc] using this
  subst hj
  rw [Nat.mul_one, Nat.add_zero, B.cell, frA_at hi]
  simpa [intc] using hv
theorem fr_bd {f : List Int} {i : Nat} {v : Int} (h : ∀ x ∈ f, 0 ≤ x ∧ x ≤ 1440) (hv : 0 ≤ v ∧ v ≤ 1440) : ∀ x ∈ f.set i v, 0 ≤ x ∧ x ≤ 1440 := fun x hx => by
  rcases List.mem_or_eq_of_mem_set hx with h1 | h1
  · exact h x h1
  · subst h1; exact hv
end Go.Proofs.Ytocipeididkllaa
