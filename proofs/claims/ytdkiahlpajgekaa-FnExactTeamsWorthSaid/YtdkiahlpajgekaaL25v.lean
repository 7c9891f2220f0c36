/- Chapter 25: the chance to save a victim by teams: what it is (plain), and the walks. -/
import Derived.Test.YtdkiahlpajgekaaL25g
import Derived.Test.YtdkiahlpajgekaaL25u
import Derived.Test.YtdkiahlpajgekaaApp
namespace Go.Proofs.Ytdkiahlpajgekaa
set_option linter.unusedSimpArgs false
set_option linter.unusedVariables false
open Go.RowKit
set_option maxHeartbeats 400000
set_option maxRecDepth 100000
/-- minutes of team t among the first k areas -/
def etTo (xs : List SArea) (ts : List Int) (t : Int) : Nat → Int
  | 0 => 0
  | k + 1 => if h : k < ts.length then (if ts[k] = t then etTo xs ts t k + minA xs k else etTo xs ts t k) else etTo xs ts t k
theorem etTo_yes {xs : List SArea} {ts : List Int} {t : Int} {k : Nat} (hk : k < ts.length) (h : ts[k] = t) : etTo xs ts t (k + 1) = etTo xs ts t k + minA xs k := by rw [etTo, dif_pos hk, if_pos h]
theorem etTo_no {xs : List SArea} {ts : List Int} {t : Int} {k : Nat} (hk : k < ts.length) (h : ¬ ts[k] = t) : etTo xs ts t (k + 1) = etTo xs ts t k := by rw [etTo, dif_pos hk, if_neg h]
theorem etTo_bd {xs : List SArea} (hv : vlArea xs = true) (ts : List Int) (t : Int) (k : Nat) : 0 ≤ etTo xs ts t k ∧ etTo xs ts t k ≤ 600 * k := by
  induction k with
  | zero => simp [etTo]
  | succ k ih =>
    have hm : 0 ≤ minA xs k ∧ minA xs k ≤ 600 := by
      unfold minA; split
      · rename_i h; have := okArea_bd (vlArea_ok hv k h); omega
      · omega
    rw [etTo]
    repeat' split
    all_goals omega
/-- worth of the first k areas -/
def twTo (xs : List SArea) (ts : List Int) (s : Int) : Nat → Int
  | 0 => 0
  | k + 1 => if h : k < ts.length then twTo xs ts s k + chA xs k * surv (s + etTo xs ts ts[k] (k + 1)) else twTo xs ts s k
theorem twTo_at {xs : List SArea} {ts : List Int} {s : Int} {k : Nat} (hk : k < ts.length) : twTo xs ts s (k + 1) = twTo xs ts s k + chA xs k * surv (s + etTo xs ts ts[k] (k + 1)) := by rw [twTo, dif_pos hk]
theorem chA_bd {xs : List SArea} (hv : vlArea xs = true) (k : Nat) : 0 ≤ chA xs k ∧ chA xs k ≤ 1000 := by
  unfold chA; split
  · rename_i h; have := okArea_bd (vlArea_ok hv k h); omega
  · omega
theorem cs_bd {c s : Int} (h0 : 0 ≤ c) (h1 : c ≤ 1000) (h2 : 0 ≤ s) (h3 : s ≤ 1000) : 0 ≤ c * s ∧ c * s ≤ 1000000 := by
  have a := Int.mul_nonneg h0 h2
  have b := Int.mul_le_mul h1 h3 h2 (by omega : (0 : Int) ≤ 1000)
  omega
theorem twTo_bd {xs : List SArea} (hv : vlArea xs = true) (ts : List Int) {s : Int} (hs : 0 ≤ s) (k : Nat) : 0 ≤ twTo xs ts s k ∧ twTo xs ts s k ≤ 1000000 * k := by
  induction k with
  | zero => simp [twTo]
  | succ k ih =>
    rw [twTo]
    split
    · rename_i hk
      have h1 := chA_bd hv k
      have h2 := surv_bd (m := s + etTo xs ts ts[k] (k + 1)) (by have := (etTo_bd hv ts ts[k] (k + 1)).1; omega)
      have h3 := cs_bd h1.1 h1.2 h2.1 h2.2
      omega
    · omega
/-- end and worth of an order of areas -/
def woL (xs : List SArea) (s : Int) (os : List Int) : Int × Int := os.foldl (fun p o => (p.1 + minA xs o.toNat, p.2 + chA xs o.toNat * surv (p.1 + minA xs o.toNat))) (s, 0)
theorem woL_snoc (xs : List SArea) (s : Int) (os : List Int) (o : Int) : woL xs s (os ++ [o]) = ((woL xs s os).1 + minA xs o.toNat, (woL xs s os).2 + chA xs o.toNat * surv ((woL xs s os).1 + minA xs o.toNat)) := by
  simp only [woL, List.foldl_append, List.foldl_cons, List.foldl_nil]
def ofT (t : Int) (n : Int) : Bool := n == t
theorem wo_end (xs : List SArea) (ts : List Int) (s t : Int) (k : Nat) : (woL xs s (idxL (ofT t) ts k)).1 = s + etTo xs ts t k := by
  induction k with
  | zero => simp [idxL, woL, etTo]
  | succ k ih =>
    by_cases hk : k < ts.length
    · by_cases hq : ts[k] = t
      · rw [idxL_yes hk (by simpa [ofT] using hq), woL_snoc, etTo_yes hk hq, ih]; simp only [Int.toNat_natCast]; omega
      · rw [idxL_no hk (by simpa [ofT] using hq), etTo_no hk hq, ih]
    · rw [idxL, dif_neg hk, etTo, dif_neg hk, ih]
/-- the worths of the teams below n -/
def sumT (xs : List SArea) (ts : List Int) (s : Int) (k : Nat) : Nat → Int
  | 0 => 0
  | n + 1 => sumT xs ts s k n + (woL xs s (idxL (ofT (n : Int)) ts k)).2
theorem wo_no {xs : List SArea} {ts : List Int} {s t : Int} {k : Nat} (hk : k < ts.length) (h : ¬ ts[k] = t) : (woL xs s (idxL (ofT t) ts (k + 1))).2 = (woL xs s (idxL (ofT t) ts k)).2 := by
  rw [idxL_no hk (by simpa [ofT] using h)]
theorem wo_yes {xs : List SArea} {ts : List Int} {s t : Int} {k : Nat} (hk : k < ts.length) (h : ts[k] = t) : (woL xs s (idxL (ofT t) ts (k + 1))).2 = (woL xs s (idxL (ofT t) ts k)).2 + chA xs k * surv (s + etTo xs ts t (k + 1)) := by
  rw [idxL_yes hk (by simpa [ofT] using h), woL_snoc, wo_end, etTo_yes hk h]
  simp only [Int.toNat_natCast]
  rw [Int.add_assoc]
theorem sumT_tw {xs : List SArea} {ts : List Int} {s : Int} (h : ∀ k (hk : k < ts.length), 0 ≤ ts[k] ∧ ts[k] ≤ 3) (k : Nat) : sumT xs ts s k 4 = twTo xs ts s k := by
  induction k with
  | zero => simp [sumT, idxL, woL, twTo]
  | succ k ih =>
    by_cases hk : k < ts.length
    · have hb := h k hk
      rw [twTo_at hk, ← ih]
      simp only [sumT]
      rcases (show ts[k] = 0 ∨ ts[k] = 1 ∨ ts[k] = 2 ∨ ts[k] = 3 by omega) with e | e | e | e
      · rw [wo_yes (t := ((0 : Nat) : Int)) hk e, wo_no (t := ((1 : Nat) : Int)) hk (by omega), wo_no (t := ((2 : Nat) : Int)) hk (by omega), wo_no (t := ((3 : Nat) : Int)) hk (by omega), e]; simp only [Int.natCast_zero]; omega
      · rw [wo_no (t := ((0 : Nat) : Int)) hk (by omega), wo_yes (t := ((1 : Nat) : Int)) hk e, wo_no (t := ((2 : Nat) : Int)) hk (by omega), wo_no (t := ((3 : Nat) : Int)) hk (by omega), e]; simp only [Int.natCast_one]; omega
      · rw [wo_no (t := ((0 : Nat) : Int)) hk (by omega), wo_no (t := ((1 : Nat) : Int)) hk (by omega), wo_yes (t := ((2 : Nat) : Int)) hk e, wo_no (t := ((3 : Nat) : Int)) hk (by omega), e]; have : ((2 : Nat) : Int) = 2 := rfl; rw [this]; omega
      · rw [wo_no (t := ((0 : Nat) : Int)) hk (by omega), wo_no (t := ((1 : Nat) : Int)) hk (by omega), wo_no (t := ((2 : Nat) : Int)) hk (by omega), wo_yes (t := ((3 : Nat) : Int)) hk e, e]; have : ((3 : Nat) : Int) = 3 := rfl; rw [this]; omega
    · rw [twTo, dif_neg hk, ← ih]
      simp only [sumT]
      have e : ∀ t, idxL (ofT t) ts (k + 1) = idxL (ofT t) ts k := fun t => by rw [idxL, dif_neg hk]
      rw [e, e, e, e]
def twRes (xs : List SArea) (ts : List Int) (s : Int) : Int × Int := if okAreas xs then (if inr 0 1000 s then (if decide (ts.length = xs.length) && allIn 0 3 ts then (twTo xs ts s ts.length, 0) else (0, 7)) else (0, 2)) else (0, 1)
theorem twRes_1 {xs : List SArea} {ts : List Int} {s : Int} (h : okAreas xs = false) : twRes xs ts s = (0, 1) := by rw [twRes, if_neg (by rw [h]; simp)]
theorem twRes_2 {xs : List SArea} {ts : List Int} {s : Int} (h : okAreas xs = true) (h2 : inr 0 1000 s = false) : twRes xs ts s = (0, 2) := by rw [twRes, if_pos h, if_neg (by rw [h2]; simp)]
theorem twRes_7 {xs : List SArea} {ts : List Int} {s : Int} (h : okAreas xs = true) (h2 : inr 0 1000 s = true) (h3 : (decide (ts.length = xs.length) && allIn 0 3 ts) = false) : twRes xs ts s = (0, 7) := by rw [twRes, if_pos h, if_pos h2, if_neg (by rw [h3]; simp)]
theorem twRes_0 {xs : List SArea} {ts : List Int} {s : Int} (h : okAreas xs = true) (h2 : inr 0 1000 s = true) (h3 : (decide (ts.length = xs.length) && allIn 0 3 ts) = true) : twRes xs ts s = (twTo xs ts s ts.length, 0) := by rw [twRes, if_pos h, if_pos h2, if_pos h3]
theorem allIn_at {lo hi : Int} {xs : List Int} (h : allIn lo hi xs = true) {k : Nat} (hk : k < xs.length) : lo ≤ xs[k] ∧ xs[k] ≤ hi := by
  unfold allIn at h
  rw [List.all_eq_true] at h
  exact inr_bd' (h _ (List.getElem_mem hk))
end Go.Proofs.Ytdkiahlpajgekaa
