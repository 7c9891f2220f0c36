/- Chapter 8: tests; plain part. -/
import Derived.Test.YtlicpgmcnebpmaaTypes
import Derived.Test.YtlicpgmcnebpmaaLst
namespace Go.Proofs.Ytlicpgmcnebpmaa
set_option linter.unusedSimpArgs false
set_option linter.unusedVariables false
open Go.RowKit
set_option maxHeartbeats 400000
def okTest (x : STest) : Bool := inr 1 3 x.Quality && inr 1 300 x.Depth && inr 0 100000 x.Hour && (if x.Kind = 3 then inr 1 7 x.Score else (decide (x.Kind = 1) || decide (x.Kind = 2)) && inr 0 31 x.Score)
theorem okTest_bd {x : STest} (h : okTest x = true) : 1 ≤ x.Quality ∧ x.Quality ≤ 3 ∧ 1 ≤ x.Depth ∧ x.Depth ≤ 300 ∧ 0 ≤ x.Hour ∧ x.Hour ≤ 100000 ∧ 1 ≤ x.Kind ∧ x.Kind ≤ 3 ∧ 0 ≤ x.Score ∧ x.Score ≤ 31 := by
  unfold okTest at h
  split at h
  · simp [inr] at h; omega
  · simp [inr] at h; omega
def ltTest (a b : STest) : Bool := decide (a.Hour ≤ b.Hour)
def atTest (xs : List STest) (i : Nat) : Bool := if h : i < xs.length then okTest xs[i] && (decide (i = 0) || ltTest (xs[i-1]) xs[i]) else false
def vlTest (xs : List STest) : Bool := (List.range xs.length).all (atTest xs) && decide (xs.length ≤ 16)
theorem vlTest_no {xs : List STest} {k : Nat} (hk : k < xs.length) (h : atTest xs k = false) : vlTest xs = false := by unfold vlTest; rw [all_range_no hk h, Bool.false_and]
theorem atTest_bad {xs : List STest} {k : Nat} (hk : k < xs.length) (hv : okTest xs[k] = false) : atTest xs k = false := by simp [atTest, hk, hv]
theorem atTest_0 {xs : List STest} {k : Nat} (hk : k < xs.length) (hv : okTest xs[k] = true) (h0 : k = 0) : atTest xs k = true := by subst h0; simp [atTest, hk, hv]
theorem atTest_ok {xs : List STest} {k : Nat} (hk : k < xs.length) (hv : okTest xs[k] = true) (hc : ltTest (xs[k-1]) xs[k] = true) : atTest xs k = true := by rw [atTest, dif_pos hk, hv, hc, Bool.true_and, Bool.or_true]
theorem atTest_no {xs : List STest} {k : Nat} (hk : k < xs.length) (h0 : 0 < k) (hc : ltTest (xs[k-1]) xs[k] = false) : atTest xs k = false := by rw [atTest, dif_pos hk, hc, decide_eq_false (show ¬ k = 0 by omega), Bool.or_false, Bool.and_false]
theorem vlTest_len {xs : List STest} (h : vlTest xs = true) : xs.length ≤ 16 := by simp only [vlTest, Bool.and_eq_true, decide_eq_true_eq] at h; exact h.2
theorem vlTest_ok {xs : List STest} (h : vlTest xs = true) : ∀ k (hk : k < xs.length), okTest xs[k] = true := fun k hk => by
  simp only [vlTest, Bool.and_eq_true, List.all_eq_true, List.mem_range] at h; have := h.1 k hk; simp only [atTest, hk, dite_true, Bool.and_eq_true] at this; exact this.1
/-- the three limits of a kind -/
def lim (kind : Int) (i : Nat) : Int := if kind = 1 then (if i = 0 then 10 else if i = 1 then 20 else 30) else if kind = 2 then (if i = 0 then 13 else if i = 1 then 22 else 30) else (if i = 0 then 2 else if i = 1 then 4 else 6)
def over (x : STest) (i : Nat) : Int := if lim x.Kind i < x.Score then 1 else 0
/-- 1 and how many of the first k limits are less than the score -/
def baseC (x : STest) : Nat → Int
  | 0 => 1
  | k + 1 => baseC x k + over x k
theorem baseC_bd (x : STest) (k : Nat) : 1 ≤ baseC x k ∧ baseC x k ≤ 1 + k := by
  induction k with
  | zero => simp [baseC]
  | succ k ih => simp only [baseC, over]; split <;> omega
theorem baseC_yes {x : STest} {k : Nat} (h : lim x.Kind k < x.Score) : baseC x (k + 1) = baseC x k + 1 := by rw [baseC, over, if_pos h]
theorem baseC_no {x : STest} {k : Nat} (h : ¬ lim x.Kind k < x.Score) : baseC x (k + 1) = baseC x k := by rw [baseC, over, if_neg h]; omega
def cls (x : STest) : Int := max 1 (min 4 (baseC x 3 + x.Quality - 2))
theorem cls_bd (x : STest) : 1 ≤ cls x ∧ cls x ≤ 4 := by unfold cls; omega
/-- the least class of the first k, 4 ahead of them -/
def wcTo (xs : List STest) : Nat → Int
  | 0 => 4
  | k + 1 => if h : k < xs.length then min (wcTo xs k) (cls xs[k]) else wcTo xs k
theorem wc_at {xs : List STest} {k : Nat} {v : Int} (h : k < xs.length) (hv : wcTo xs k = v) : wcTo xs (k + 1) = min v (cls xs[k]) := by rw [wcTo, dif_pos h, hv]
theorem wc_bd (xs : List STest) (k : Nat) : 1 ≤ wcTo xs k ∧ wcTo xs k ≤ 4 := by
  induction k with
  | zero => simp [wcTo]
  | succ k ih =>
    rw [wcTo]
    split
    · rename_i h
      have := cls_bd xs[k]
      omega
    · exact ih
theorem wc_le0 {xs : List STest} (h : 0 < xs.length) : ∀ k, 0 < k → wcTo xs k ≤ cls xs[0] := by
  intro k
  induction k with
  | zero => intro h; omega
  | succ k ih =>
    intro _
    by_cases hk : k = 0
    · subst hk; rw [wc_at h rfl]; omega
    · have := ih (by omega)
      rw [wcTo]
      split <;> omega
def wcRes (xs : List STest) : Int × Int := if vlTest xs then (if xs.length = 0 then (0, 3) else (wcTo xs xs.length, 0)) else (0, 1)
theorem wcRes_0 {xs : List STest} {v : Int} (h : vlTest xs = true) (h2 : ¬ xs.length = 0) (hv : wcTo xs xs.length = v) : wcRes xs = (v, 0) := by rw [wcRes, if_pos h, if_neg h2, hv]
theorem wcRes_3 {xs : List STest} (h : vlTest xs = true) (h2 : xs.length = 0) : wcRes xs = (0, 3) := by rw [wcRes, if_pos h, if_pos h2]
theorem wcRes_1 {xs : List STest} (h : vlTest xs = false) : wcRes xs = (0, 1) := by simp [wcRes, h]
/-- tests of some hours -/
def qRec (hour n : Int) (x : STest) : Bool := decide (hour - n ≤ x.Hour) && decide (x.Hour ≤ hour)
def rtRes (xs : List STest) (hour n : Int) : List Int × Int := if vlTest xs then (if inr 0 100000 hour && inr 0 300 n then (idxL (qRec hour n) xs xs.length, 0) else ([], 2)) else ([], 1)
theorem rtRes_0 {xs : List STest} {hour n : Int} (h : vlTest xs = true) (h2 : inr 0 100000 hour = true) (h3 : inr 0 300 n = true) : rtRes xs hour n = (idxL (qRec hour n) xs xs.length, 0) := by rw [rtRes, if_pos h, h2, h3]; rfl
theorem rtRes_len {xs : List STest} {hour n : Int} : (rtRes xs hour n).1.length ≤ 16 := by
  unfold rtRes
  split
  · rename_i h
    have h1 := vlTest_len h
    split
    · have := idxL_len (qRec hour n) xs xs.length; simp only; omega
    · simp
  · simp
/-- the class of the test at a place that is a number -/
def clsAt (xs : List STest) (i : Int) : Int := match xs[i.toNat]? with
  | some x => cls x
  | none => 0
theorem clsAt_eq {xs : List STest} {k : Nat} (h : k < xs.length) : clsAt xs (k : Int) = cls xs[k] := by simp [clsAt, h]
theorem clsAt_bd (xs : List STest) (i : Int) : 0 ≤ clsAt xs i ∧ clsAt xs i ≤ 4 := by
  unfold clsAt
  split
  · rename_i x _
    have := cls_bd x
    omega
  · omega
theorem idxL_mem {α : Type} {q : α → Bool} {xs : List α} {n : Nat} : ∀ {k : Nat} (h : k < (idxL q xs n).length), ∃ i : Nat, i < xs.length ∧ (idxL q xs n)[k] = (i : Int) := by
  induction n with
  | zero => intro k h; simp [idxL] at h
  | succ n ih =>
    intro k h
    by_cases hn : n < xs.length
    · cases hq : q xs[n]
      · have e := idxL_no hn hq
        rw [e] at h
        obtain ⟨i, h1, h2⟩ := ih h
        exact ⟨i, h1, by simp only [e]; exact h2⟩
      · have e := idxL_yes hn hq
        rw [e, List.length_append] at h
        by_cases hk : k < (idxL q xs n).length
        · obtain ⟨i, h1, h2⟩ := ih hk
          exact ⟨i, h1, by simp only [e]; rw [List.getElem_append_left hk]; exact h2⟩
        · refine ⟨n, hn, ?_⟩
          have hk2 : k = (idxL q xs n).length := by simp at h; omega
          simp only [e]
          rw [List.getElem_append_right (by omega)]
          simp [hk2]
    · have e : idxL q xs (n + 1) = idxL q xs n := by rw [idxL, dif_neg hn]
      rw [e] at h
      obtain ⟨i, h1, h2⟩ := ih h
      exact ⟨i, h1, by simp only [e]; exact h2⟩
def mcRes (xs : List STest) (hour n : Int) : Int × Int :=
  if (rtRes xs hour n).2 = 0 then (if (rtRes xs hour n).1.length = 0 then (0, 3) else (rdiv (100 * sumL (clsAt xs) (rtRes xs hour n).1 (rtRes xs hour n).1.length) ((rtRes xs hour n).1.length : Int), 0)) else (0, (rtRes xs hour n).2)
/-- how many of the first k have class c -/
def qCls (c : Int) (x : STest) : Bool := cls x == c
def cntC (xs : List STest) (k : Nat) (c : Nat) : Int := (cntL (qCls (c : Int)) xs k : Int)
/-- the greatest of the five counts -/
def mostC (xs : List STest) (k : Nat) : Int := max (max (max (max (cntC xs k 0) (cntC xs k 1)) (cntC xs k 2)) (cntC xs k 3)) (cntC xs k 4)
theorem cntC_step {xs : List STest} {k : Nat} (h : k < xs.length) (c : Nat) : cntC xs (k + 1) c = cntC xs k c + (if cls xs[k] = (c : Int) then 1 else 0) := by
  unfold cntC
  by_cases e : cls xs[k] = (c : Int)
  · rw [cntL_yes h (by simp [qCls, e]), if_pos e]; omega
  · rw [cntL_no h (by simp [qCls, e]), if_neg e]; omega
theorem cntC_bd (xs : List STest) (k c : Nat) : 0 ≤ cntC xs k c ∧ cntC xs k c ≤ k := by
  have := cntL_le (qCls (c : Int)) xs k
  unfold cntC; omega
theorem mostC_step {xs : List STest} {k c : Nat} (h : k < xs.length) (hc : cls xs[k] = (c : Int)) : mostC xs (k + 1) = max (mostC xs k) (cntC xs (k + 1) c) := by
  have hb := cls_bd xs[k]
  have hc4 : c ≤ 4 := by omega
  unfold mostC
  have s0 := cntC_step h 0
  have s1 := cntC_step h 1
  have s2 := cntC_step h 2
  have s3 := cntC_step h 3
  have s4 := cntC_step h 4
  rw [hc] at s0 s1 s2 s3 s4
  rcases (show c = 1 ∨ c = 2 ∨ c = 3 ∨ c = 4 by omega) with rfl | rfl | rfl | rfl
  all_goals
    simp at s0 s1 s2 s3 s4
    omega
def agRes (xs : List STest) : Int × Int := if vlTest xs then (if xs.length = 0 then (0, 3) else (rdiv (1000 * mostC xs xs.length) (xs.length : Int), 0)) else (0, 1)
theorem agRes_1 {xs : List STest} (h : vlTest xs = false) : agRes xs = (0, 1) := by simp [agRes, h]
theorem agRes_3 {xs : List STest} (h : vlTest xs = true) (h2 : xs.length = 0) : agRes xs = (0, 3) := by rw [agRes, if_pos h, if_pos h2]
theorem agRes_0 {xs : List STest} (h : vlTest xs = true) (h2 : ¬ xs.length = 0) : agRes xs = (rdiv (1000 * mostC xs xs.length) (xs.length : Int), 0) := by rw [agRes, if_pos h, if_neg h2]
/-- two tests that contradict each other -/
def qCon (near : Int) (xs : List STest) (i k : Nat) : Bool := match xs[i]?, xs[k]? with
  | some a, some b => decide (max (a.Depth - b.Depth) (-(a.Depth - b.Depth)) ≤ near) && decide (2 ≤ max (cls a - cls b) (-(cls a - cls b)))
  | _, _ => false
theorem qCon_at {near : Int} {xs : List STest} {i k : Nat} (hi : i < xs.length) (hk : k < xs.length) : qCon near xs i k = (decide (max (xs[i].Depth - xs[k].Depth) (-(xs[i].Depth - xs[k].Depth)) ≤ near) && decide (2 ≤ max (cls xs[i] - cls xs[k]) (-(cls xs[i] - cls xs[k])))) := by
  rw [qCon, List.getElem?_eq_getElem hi, List.getElem?_eq_getElem hk]
/-- the pairs of i with those from i + 1 on, m of them -/
def conIn (near : Int) (xs : List STest) (i : Nat) : Nat → List (List Int)
  | 0 => []
  | m + 1 => if qCon near xs i (i + 1 + m) then conIn near xs i m ++ [[(i : Int), ((i + 1 + m : Nat) : Int)]] else conIn near xs i m
def conTo (near : Int) (xs : List STest) : Nat → List (List Int)
  | 0 => []
  | i + 1 => conTo near xs i ++ conIn near xs i (xs.length - (i + 1))
theorem conIn_yes {near : Int} {xs : List STest} {i m : Nat} (h : qCon near xs i (i + 1 + m) = true) : conIn near xs i (m + 1) = conIn near xs i m ++ [[(i : Int), ((i + 1 + m : Nat) : Int)]] := by rw [conIn, if_pos h]
theorem conIn_no {near : Int} {xs : List STest} {i m : Nat} (h : qCon near xs i (i + 1 + m) = false) : conIn near xs i (m + 1) = conIn near xs i m := by rw [conIn, if_neg (by rw [h]; simp)]
theorem conIn_len (near : Int) (xs : List STest) (i m : Nat) : (conIn near xs i m).length ≤ m := by
  induction m with
  | zero => simp [conIn]
  | succ m ih =>
    simp only [conIn]
    split
    · rw [List.length_append]; simp; omega
    · omega
theorem conTo_len (near : Int) (xs : List STest) (i : Nat) (h : xs.length ≤ 16) : (conTo near xs i).length ≤ 16 * i := by
  induction i with
  | zero => simp [conTo]
  | succ i ih =>
    have := conIn_len near xs i (xs.length - (i + 1))
    simp only [conTo, List.length_append]; omega
def twoL (L : List (List Int)) : Prop := ∀ l ∈ L, l.length ≤ 2
theorem twoL_get {L : List (List Int)} (h : twoL L) (i : Nat) : (L.getD i []).length ≤ 2 := by
  rw [List.getD]
  cases e : L[i]? with
  | none => simp
  | some l => exact h l (List.mem_of_getElem? e)
theorem conIn_two (near : Int) (xs : List STest) (i m : Nat) : twoL (conIn near xs i m) := by
  induction m with
  | zero => intro l hl; simp [conIn] at hl
  | succ m ih =>
    intro l hl
    simp only [conIn] at hl
    split at hl
    · rw [List.mem_append] at hl
      rcases hl with hl | hl
      · exact ih l hl
      · simp at hl; subst hl; simp
    · exact ih l hl
theorem conTo_two (near : Int) (xs : List STest) (i : Nat) : twoL (conTo near xs i) := by
  induction i with
  | zero => intro l hl; simp [conTo] at hl
  | succ i ih =>
    intro l hl
    simp only [conTo, List.mem_append] at hl
    rcases hl with hl | hl
    · exact ih l hl
    · exact conIn_two near xs i _ l hl
def ctRes (xs : List STest) (near : Int) : List (List Int) × Int := if vlTest xs then (if inr 0 300 near then (conTo near xs xs.length, 0) else ([], 2)) else ([], 1)
theorem ctRes_0 {xs : List STest} {near : Int} (h : vlTest xs = true) (h2 : inr 0 300 near = true) : ctRes xs near = (conTo near xs xs.length, 0) := by rw [ctRes, if_pos h, if_pos h2]
theorem ctRes_len {xs : List STest} {near : Int} : (ctRes xs near).1.length ≤ 256 := by
  unfold ctRes
  split
  · rename_i h
    have h1 := vlTest_len h
    split
    · have := conTo_len near xs xs.length h1; simp only; omega
    · simp
  · simp
theorem ctRes_two {xs : List STest} {near : Int} : twoL (ctRes xs near).1 := by
  unfold ctRes
  split
  · split
    · exact conTo_two near xs _
    · intro l hl; simp at hl
  · intro l hl; simp at hl
end Go.Proofs.Ytlicpgmcnebpmaa
