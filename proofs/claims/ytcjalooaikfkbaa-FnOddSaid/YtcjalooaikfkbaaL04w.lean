/- Chapter 4: what the law of odd observations says of the functions that the program computes; no program in sight. -/
import Derived.Test.YtcjalooaikfkbaaL04c
import Derived.Test.YtcjalooaikfkbaaL04d
import Derived.Test.YtcjalooaikfkbaaL04f
namespace Go.Proofs.Ytcjalooaikfkbaa
set_option linter.unusedSimpArgs false
set_option linter.unusedVariables false
open Go.RowKit
set_option maxHeartbeats 400000
theorem hasPosW {xs : List SObserved} (hv : vlObserved xs = true) {h : Int} {j : Nat} (hj : j < xs.length) (hh : xs[j].Hour = h) : posL xs h = j ∧ hasL xs h = true := by
  obtain ⟨a, b, c⟩ := pos_spec hv h
  have h1 : ¬ j < posL xs h := fun hl => by have := b j hj hl; omega
  have h2 : ¬ posL xs h < j := fun hl => by
    have := c (posL xs h) (by omega) (Nat.le_refl _)
    have := hours_lt hv (i := posL xs h) (j := j) hl hj
    omega
  have e : posL xs h = j := by omega
  exact ⟨e, by rw [has_at e hj, hh]; simp⟩
theorem codes_same (xs : List SObserved) (s d : Int) : (woRes xs s d).2 = (ooRes xs s d).2 := by
  cases hv : vlObserved xs
  · rw [woRes_1 hv, ooRes_1 hv]
  · cases hq : lims s d
    · rw [woRes_2 hv hq, ooRes_2 hv hq]
    · rw [woRes_0 hv hq, ooRes_0 hv hq]
theorem codes_0 {xs : List SObserved} {s d : Int} (h : (woRes xs s d).2 = 0) : vlObserved xs = true ∧ lims s d = true := by
  cases hv : vlObserved xs
  · rw [woRes_1 hv] at h; cases h
  · cases hq : lims s d
    · rw [woRes_2 hv hq] at h; cases h
    · exact ⟨rfl, rfl⟩
theorem vlO_mk {xs : List SObserved} (h1 : ∀ i (h : i < xs.length), okObserved xs[i] = true) (h2 : ∀ i (h : i < xs.length), 0 < i → (xs[i-1]).Hour < xs[i].Hour) (h3 : xs.length ≤ 48) : vlObserved xs = true := by
  simp only [vlObserved, Bool.and_eq_true, List.all_eq_true, List.mem_range, decide_eq_true_eq]
  refine ⟨fun i hi => ?_, h3⟩
  rcases Nat.eq_zero_or_pos i with e | e
  · exact atObserved_0 hi (h1 i hi) e
  · exact atObserved_ok hi (h1 i hi) (decide_eq_false (by have := h2 i hi e; omega))
/-- neighbours are related -/
def Ch (R : SObserved → SObserved → Prop) (L : List SObserved) : Prop := ∀ i (h : i < L.length), 0 < i → R (L[i-1]'(by omega)) L[i]
theorem Ch.snoc {R : SObserved → SObserved → Prop} {L : List SObserved} {x : SObserved} (hc : Ch R L) (hl : ∀ h : 0 < L.length, R (L[L.length-1]'(by omega)) x) : Ch R (L ++ [x]) := by
  intro i hi h0
  rw [List.length_append, List.length_singleton] at hi
  rcases Nat.lt_or_ge i L.length with h | h
  · rw [List.getElem_append_left (by omega), List.getElem_append_left h]
    exact hc i h h0
  · obtain rfl : i = L.length := by omega
    rw [List.getElem_append_left (by omega), List.getElem_append_right (by omega)]
    simpa using hl h0
theorem wo_chain {xs : List SObserved} {s d : Int} (hv : vlObserved xs = true) : ∀ k, Ch (fun a b => a.Hour < b.Hour ∧ oddO s d a b = false) (woTo s d xs k)
  | 0 => fun i h => absurd h (Nat.not_lt_zero i)
  | k + 1 => by
    have ih := wo_chain (s := s) (d := d) hv k
    rw [woTo]
    split
    · rename_i hk
      split
      · rename_i hkeep
        refine ih.snoc fun h0 => ?_
        rw [keepO_at h0] at hkeep
        obtain ⟨i, h1, h2, h3⟩ := wo_mem s d xs k _ (List.getElem_mem (show (woTo s d xs k).length - 1 < (woTo s d xs k).length by omega))
        exact ⟨by rw [h3]; exact hours_lt hv h2 hk, by simpa using hkeep⟩
      · exact ih
    · exact ih
theorem wo_ok {xs : List SObserved} {s d : Int} (hv : vlObserved xs = true) : vlObserved (woTo s d xs xs.length) = true := by
  refine vlO_mk (fun i h => ?_) (fun i h h0 => (wo_chain hv xs.length i h h0).1) ?_
  · obtain ⟨j, h1, h2, h3⟩ := wo_mem s d xs xs.length _ (List.getElem_mem h)
    rw [h3]; exact vlObserved_ok hv j h1
  · have := wo_len s d xs xs.length
    have := vlObserved_len hv
    omega
theorem oddTo_nil {s d : Int} {xs : List SObserved} : ∀ k, (oddTo s d xs k).length = 0 ↔ ∀ i, 0 < i → i ≤ k → qOdd s d xs i = false
  | 0 => ⟨fun _ i h1 h2 => absurd h1 (by omega), fun _ => rfl⟩
  | k + 1 => by
    have ih := oddTo_nil (s := s) (d := d) (xs := xs) k
    cases hq : qOdd s d xs (k + 1)
    · rw [oddTo_no (by omega) hq, show k + 1 - 1 = k by omega, ih]
      refine ⟨fun h i h1 h2 => ?_, fun h i h1 h2 => h i h1 (by omega)⟩
      rcases Nat.lt_or_ge i (k + 1) with h3 | h3
      · exact h i h1 (by omega)
      · obtain rfl : i = k + 1 := by omega
        exact hq
    · rw [oddTo_yes (by omega) hq]
      refine ⟨fun h => by simp at h, fun h => ?_⟩
      rw [h (k + 1) (by omega) (Nat.le_refl _)] at hq; cases hq
theorem wo_odd {xs : List SObserved} {s d : Int} (hv : vlObserved xs = true) : (oddTo s d (woTo s d xs xs.length) ((woTo s d xs xs.length).length - 1)).length = 0 := by
  refine (oddTo_nil _).2 fun i h0 h1 => ?_
  have hi : i < (woTo s d xs xs.length).length := by omega
  rw [qOdd_at hi]
  exact (wo_chain hv xs.length i hi h0).2
theorem wo_full {xs : List SObserved} {s d : Int} : ∀ k, k ≤ xs.length → ((woTo s d xs k).length = k → woTo s d xs k = xs.take k ∧ ∀ i, 0 < i → i < k → qOdd s d xs i = false) ∧ ((∀ i, 0 < i → i < k → qOdd s d xs i = false) → woTo s d xs k = xs.take k)
  | 0, _ => ⟨fun _ => ⟨by simp [woTo], fun i h1 h2 => absurd h2 (by omega)⟩, fun _ => by simp [woTo]⟩
  | k + 1, hk => by
    have hlt : k < xs.length := by omega
    obtain ⟨ih1, ih2⟩ := wo_full (s := s) (d := d) (xs := xs) k (by omega)
    have hle := wo_len s d xs k
    have hkeep : woTo s d xs k = xs.take k → keepO s d (woTo s d xs k) xs[k] = if k = 0 then true else !qOdd s d xs k := fun e => by
      split
      · rename_i h0
        exact keepO_nil (by omega)
      · rename_i h0
        have hp : 0 < (woTo s d xs k).length := by rw [e, List.length_take]; omega
        rw [keepO_at hp, qOdd_at hlt]
        have hl : (woTo s d xs k).length = k := by rw [e, List.length_take]; omega
        congr 2
        have : (woTo s d xs k)[(woTo s d xs k).length - 1] = (xs.take k)[k - 1]'(by rw [List.length_take]; omega) := by
          congr 1
          · rw [hl]
        rw [this, List.getElem_take]
    constructor
    · intro h
      cases hq : keepO s d (woTo s d xs k) xs[k]
      · rw [wo_no hlt rfl hq] at h; omega
      · rw [wo_yes hlt rfl hq] at h ⊢
        rw [List.length_append, List.length_singleton] at h
        obtain ⟨e, h2⟩ := ih1 (by omega)
        refine ⟨by rw [e, List.take_succ_eq_append_getElem hlt], fun i h3 h4 => ?_⟩
        rcases Nat.lt_or_ge i k with h5 | h5
        · exact h2 i h3 h5
        · obtain rfl : i = k := by omega
          rw [hkeep e, if_neg (by omega)] at hq
          simpa using hq
    · intro h
      have e := ih2 fun i h1 h2 => h i h1 (by omega)
      rw [wo_yes hlt rfl (by
        rw [hkeep e]
        split
        · rfl
        · rw [h k (by omega) (by omega)]; rfl), e, List.take_succ_eq_append_getElem hlt]
theorem wo_same {xs : List SObserved} {s d : Int} : (woTo s d xs xs.length).length = xs.length ↔ (oddTo s d xs (xs.length - 1)).length = 0 := by
  obtain ⟨h1, h2⟩ := wo_full (s := s) (d := d) (xs := xs) xs.length (Nat.le_refl _)
  rw [oddTo_nil]
  refine ⟨fun h i a b => ?_, fun h => ?_⟩
  · exact (h1 h).2 i a (by omega)
  · rw [h2 fun i a b => h i a (by omega), List.length_take]; omega
theorem wo_pos {xs : List SObserved} {s d : Int} : ∀ k, 0 < k → k ≤ xs.length → 0 < (woTo s d xs k).length
  | 0, h, _ => absurd h (by omega)
  | k + 1, _, hk => by
    rw [woTo, dif_pos (by omega)]
    split
    · rw [List.length_append]; simp
    · rename_i hn
      rcases Nat.eq_zero_or_pos k with e | e
      · subst e
        exact absurd (keepO_nil rfl) hn
      · exact wo_pos k e (by omega)
/-- what is left has nothing odd -/
theorem odd1 {xs : List SObserved} {s d : Int} (h : (woRes xs s d).2 = 0) : vlObserved xs = true ∧ vlObserved (woRes xs s d).1 = true ∧ ooRes (woRes xs s d).1 s d = ([], 0) ∧
    ((woRes xs s d).1.length = xs.length ↔ (ooRes xs s d).1.length = 0) ∧ ((woRes xs s d).1.length = 0 ↔ xs.length = 0) ∧ xs.length ≤ 48 := by
  obtain ⟨hv, hq⟩ := codes_0 h
  have h1 := wo_ok (s := s) (d := d) hv
  rw [woRes_0 hv hq, ooRes_0 hv hq]
  refine ⟨hv, h1, ?_, wo_same, ?_, vlObserved_len hv⟩
  · rw [ooRes_0 h1 hq, List.eq_nil_of_length_eq_zero (wo_odd hv)]
  · refine ⟨fun h2 => ?_, fun h2 => ?_⟩
    · rcases Nat.eq_zero_or_pos xs.length with e | e
      · exact e
      · have := wo_pos (s := s) (d := d) xs.length e (Nat.le_refl _)
        simp only at h2; omega
    · have := wo_len s d xs xs.length
      simp only; omega
theorem cs_self {xs : List SObserved} (hv : vlObserved xs = true) : ∀ k, k ≤ xs.length → csTo xs xs k = ((k : Int), 0)
  | 0, _ => rfl
  | k + 1, hk => by
    have hlt : k < xs.length := by omega
    obtain ⟨h1, h2⟩ := hasPosW hv hlt rfl
    rw [cs_yes hlt (cs_self hv k (by omega)) h2, h1, sAt_eq hlt]
    have : distO xs[k] xs[k] = 0 := by unfold distO; omega
    rw [this]
    simp
/-- a station is equal to itself -/
theorem odd2 {xs : List SObserved} (hv : vlObserved xs = true) : csRes xs xs = ((xs.length : Int), 0, 0) := csRes_0 hv hv (cs_self hv _ (Nat.le_refl _))
def qIn (f u : Int) (x : SObserved) : Bool := decide (f ≤ x.Hour) && decide (x.Hour < u)
theorem cntL_add {q1 q2 q3 : SObserved → Bool} {xs : List SObserved} (h : ∀ x, (if q3 x then 1 else 0) = (if q1 x then 1 else 0) + (if q2 x then 1 else 0)) : ∀ k, k ≤ xs.length → cntL q3 xs k = cntL q1 xs k + cntL q2 xs k
  | 0, _ => by simp [cntL_0]
  | k + 1, hk => by
    have hlt : k < xs.length := by omega
    have ih := cntL_add (xs := xs) h k (by omega)
    have hh := h xs[k]
    cases h1 : q1 xs[k] <;> cases h2 : q2 xs[k] <;> cases h3 : q3 xs[k] <;> simp only [h1, h2, h3] at hh
    all_goals first
      | (rw [cntL_no hlt h1, cntL_no hlt h2, cntL_no hlt h3]; omega)
      | (rw [cntL_no hlt h1, cntL_yes hlt h2, cntL_yes hlt h3]; omega)
      | (rw [cntL_yes hlt h1, cntL_no hlt h2, cntL_yes hlt h3]; omega)
      | (exfalso; revert hh; decide)
theorem cnt_hour {xs : List SObserved} (hv : vlObserved xs = true) (h : Int) : ∀ k, k ≤ xs.length → cntL (qHr h) xs k = if (hasL xs h && decide (posL xs h < k)) then 1 else 0
  | 0, _ => by simp [cntL_0]
  | k + 1, hk => by
    have hlt : k < xs.length := by omega
    have ih := cnt_hour hv h k (by omega)
    have hu := uniq hv (h := h) hlt
    cases hh : hasL xs h
    · rw [hh] at hu ih
      rw [cntL_no hlt (by unfold qHr; rw [hu]; rfl), ih]; rfl
    · rw [hh] at hu ih
      simp only [Bool.true_and] at hu ih ⊢
      by_cases hp : posL xs h = k
      · rw [cntL_yes hlt (by unfold qHr; rw [hu, decide_eq_true hp]), ih, if_neg (by simp; omega), if_pos (by simp; omega)]
      · rw [cntL_no hlt (by unfold qHr; rw [hu, decide_eq_false hp]), ih]
        by_cases h2 : posL xs h < k
        · rw [if_pos (by simp; omega), if_pos (by simp; omega)]
        · rw [if_neg (by simp; omega), if_neg (by simp; omega)]
theorem cnt_hour_all {xs : List SObserved} (hv : vlObserved xs = true) (h : Int) : cntL (qHr h) xs xs.length = if hasL xs h then 1 else 0 := by
  rw [cnt_hour hv h _ (Nat.le_refl _)]
  cases hh : hasL xs h
  · rfl
  · obtain ⟨h1, h2, h3⟩ := pos_spec hv h
    have : posL xs h < xs.length := by
      rcases Nat.lt_or_ge (posL xs h) xs.length with e | e
      · exact e
      · rw [has_end rfl (by omega)] at hh; cases hh
    rw [decide_eq_true this]; rfl
theorem mis_count {xs : List SObserved} (hv : vlObserved xs = true) (f : Int) : ∀ n : Nat, (numL (mis xs) f n).length + cntL (qIn f (f + n)) xs xs.length = n
  | 0 => by
    have : ∀ k, k ≤ xs.length → cntL (qIn f (f + (0 : Nat))) xs k = 0 := by
      intro k
      induction k with
      | zero => intro _; exact cntL_0 _ _
      | succ k ih =>
        intro hk
        rw [cntL_no (show k < xs.length by omega) (by rw [qIn, ← Bool.decide_and, decide_eq_false_iff_not]; omega)]
        exact ih (by omega)
    rw [this _ (Nat.le_refl _)]
    simp [numL]
  | n + 1 => by
    have ih := mis_count hv f n
    have ha := cntL_add (q1 := qIn f (f + (n : Nat))) (q2 := qHr (f + (n : Nat))) (q3 := qIn f (f + ((n + 1 : Nat) : Int))) (xs := xs) (fun x => by
      by_cases h1 : x.Hour < f
      · have e1 : qIn f (f + (n : Nat)) x = false := by simp [qIn]; omega
        have e2 : qHr (f + (n : Nat)) x = false := by simp [qHr]; omega
        have e3 : qIn f (f + ((n + 1 : Nat) : Int)) x = false := by simp [qIn]; omega
        rw [e1, e2, e3]; rfl
      · by_cases h2 : x.Hour < f + (n : Nat)
        · have e1 : qIn f (f + (n : Nat)) x = true := by simp [qIn]; omega
          have e2 : qHr (f + (n : Nat)) x = false := by simp [qHr]; omega
          have e3 : qIn f (f + ((n + 1 : Nat) : Int)) x = true := by simp [qIn]; omega
          rw [e1, e2, e3]; rfl
        · have e1 : qIn f (f + (n : Nat)) x = false := by simp [qIn]; omega
          by_cases h3 : x.Hour = f + (n : Nat)
          · have e2 : qHr (f + (n : Nat)) x = true := by simp [qHr]; omega
            have e3 : qIn f (f + ((n + 1 : Nat) : Int)) x = true := by simp [qIn]; omega
            rw [e1, e2, e3]; rfl
          · have e2 : qHr (f + (n : Nat)) x = false := by simp [qHr]; omega
            have e3 : qIn f (f + ((n + 1 : Nat) : Int)) x = false := by simp [qIn]; omega
            rw [e1, e2, e3]; rfl) xs.length (Nat.le_refl _)
    rw [ha, cnt_hour_all hv]
    cases hh : hasL xs (f + (n : Nat))
    · rw [numL_yes (by unfold mis; rw [hh]; rfl), List.length_append, List.length_singleton]
      simp only [Bool.false_eq_true, if_false]
      omega
    · rw [numL_no (by unfold mis; rw [hh]; rfl)]
      simp only [if_true]
      omega
theorem mh_cases (xs : List SObserved) (f u : Int) : ((mhRes xs f u).2 = 0 ∧ vlObserved xs = true ∧ 0 ≤ f ∧ f ≤ 100000 ∧ 0 ≤ u ∧ u ≤ 100000 ∧ ∃ n : Nat, u = f + n ∧ (mhRes xs f u).1 = numL (mis xs) f n) ∨ ((mhRes xs f u).2 ≠ 0 ∧ (mhRes xs f u).1 = []) := by
  unfold mhRes
  repeat' split
  all_goals first
    | exact Or.inr ⟨by decide, rfl⟩
    | (refine Or.inl ⟨rfl, ?_⟩; simp only [Bool.and_eq_true, inr, decide_eq_true_eq] at *; exact ⟨by assumption, by omega, by omega, by omega, by omega, (u - f).toNat, by omega, rfl⟩)
theorem mis_not {xs : List SObserved} (hv : vlObserved xs = true) {f : Int} {n k : Nat} (hk : k < xs.length) : xs[k].Hour ∉ numL (mis xs) f n := by
  intro h
  have h2 := (List.mem_filter.1 h).2
  rw [mis, (hasPosW hv hk rfl).2] at h2
  cases h2
end Go.Proofs.Ytcjalooaikfkbaa
