/- Chapter 28: the most incidents within some days. -/
import Derived.Test.YtabhojeikhfcfaaL28b
namespace Go.Proofs.Ytabhojeikhfcfaa
open Go.RowKit
set_option maxHeartbeats 400000
set_option maxRecDepth 100000
theorem ltIncident_day' {a b : SIncident} (h : ltIncident a b = true) : a.Day ≤ b.Day := by
  unfold ltIncident cmpIncident orI cmpI at h
  by_cases h1 : b.Day < a.Day
  · rw [if_neg (show ¬ a.Day < b.Day by omega), if_pos h1] at h
    simp at h
  · omega
theorem days_mono {xs : List SIncident} (h : vlIncident xs = true) : ∀ (d i : Nat) (hi : i + d < xs.length), (xs[i]'(by omega)).Day ≤ xs[i + d].Day := by
  intro d
  induction d with
  | zero => intro i hi; exact Int.le_refl _
  | succ d ih =>
    intro i hi
    have h1 := ih i (by omega)
    have h2 := ltIncident_day' (vlIncident_lt h (i + (d + 1)) hi (by omega))
    have e : i + (d + 1) - 1 = i + d := by omega
    simp only [e] at h2
    omega
theorem days_le {xs : List SIncident} (h : vlIncident xs = true) {i j : Nat} (hij : i ≤ j) (hj : j < xs.length) : (xs[i]'(by omega)).Day ≤ xs[j].Day := by
  obtain ⟨d, rfl⟩ := Nat.exists_eq_add_of_le hij
  exact days_mono h d i hj
/-- before a day -/
def qUp (d : Int) (x : SIncident) : Bool := decide (x.Day < d)
/-- from a day on, before another one -/
def qWin (a d : Int) (x : SIncident) : Bool := decide (a ≤ x.Day) && decide (x.Day < d)
def nWin (xs : List SIncident) (days : Int) (i : Nat) : Nat := if h : i < xs.length then cntL (qWin xs[i].Day (xs[i].Day + days)) xs xs.length else 0
theorem nWin_at {xs : List SIncident} {days : Int} {i : Nat} (h : i < xs.length) : nWin xs days i = cntL (qWin xs[i].Day (xs[i].Day + days)) xs xs.length := by rw [nWin, dif_pos h]
/-- most, its first day -/
def wdTo (xs : List SIncident) (days : Int) : Nat → Int × Int
  | 0 => (0, 0)
  | i + 1 => if h : i < xs.length then (if (wdTo xs days i).1 < (nWin xs days i : Int) then ((nWin xs days i : Int), xs[i].Day) else wdTo xs days i) else wdTo xs days i
theorem wdTo_yes {xs : List SIncident} {days : Int} {i : Nat} {m d : Int} (hi : i < xs.length) (hw : wdTo xs days i = (m, d)) (h : m < (nWin xs days i : Int)) : wdTo xs days (i + 1) = ((nWin xs days i : Int), xs[i].Day) := by
  rw [wdTo, dif_pos hi, hw, if_pos h]
theorem wdTo_no {xs : List SIncident} {days : Int} {i : Nat} {m d : Int} (hi : i < xs.length) (hw : wdTo xs days i = (m, d)) (h : ¬ m < (nWin xs days i : Int)) : wdTo xs days (i + 1) = (m, d) := by
  rw [wdTo, dif_pos hi, hw, if_neg h]
theorem wdTo_ge (xs : List SIncident) (days : Int) : ∀ k j, j < k → k ≤ xs.length → (nWin xs days j : Int) ≤ (wdTo xs days k).1 := by
  intro k
  induction k with
  | zero => intro j hj; omega
  | succ k ih =>
    intro j hj hk
    have hlt : k < xs.length := by omega
    rw [wdTo, dif_pos hlt]
    by_cases e : j = k
    · subst e; split
      · exact Int.le_refl _
      · omega
    · have := ih j (by omega) (by omega)
      split
      · simp only; omega
      · exact this
theorem wdTo_bd (xs : List SIncident) (days : Int) (h : xs.length ≤ 48) : ∀ k, 0 ≤ (wdTo xs days k).1 ∧ (wdTo xs days k).1 ≤ 48 := by
  intro k
  induction k with
  | zero => simp [wdTo]
  | succ k ih =>
    rw [wdTo]
    split
    · rename_i hk
      have := cntL_le (qWin xs[k].Day (xs[k].Day + days)) xs xs.length
      have e := nWin_at (days := days) hk
      split
      · simp only; omega
      · exact ih
    · exact ih
/-- what the program counts behind i -/
def nUp (xs : List SIncident) (days : Int) (i : Nat) : Nat := if h : i < xs.length then cntL (qUp (xs[i].Day + days)) (xs.drop i) (xs.drop i).length else 0
theorem cntL_all {α : Type} (q : α → Bool) (xs : List α) : cntL q xs xs.length = (xs.filter q).length := by rw [cntL, List.take_length]
theorem nWin_split {xs : List SIncident} (h : vlIncident xs = true) (days : Int) {i : Nat} (hi : i < xs.length) :
    nWin xs days i = ((xs.take i).filter (qWin xs[i].Day (xs[i].Day + days))).length + nUp xs days i := by
  rw [nWin_at hi, nUp, dif_pos hi, cntL_all, cntL_all]
  have e : ∀ q : SIncident → Bool, (xs.filter q).length = ((xs.take i).filter q).length + ((xs.drop i).filter q).length := fun q => by
    rw [← List.length_append, ← List.filter_append, List.take_append_drop]
  rw [e]
  congr 2
  refine List.filter_congr fun x hx => ?_
  obtain ⟨j, hj, rfl⟩ := List.getElem_of_mem hx
  rw [List.getElem_drop]
  rw [List.length_drop] at hj
  have := days_le h (i := i) (j := i + j) (by omega) (by omega)
  simp only [qWin, qUp, decide_eq_true this, Bool.true_and]
theorem nUp_same {xs : List SIncident} (h : vlIncident xs = true) {days m d : Int} {i : Nat} (hi : i < xs.length) (hw : wdTo xs days i = (m, d)) :
    (m < (nUp xs days i : Int)) ↔ (m < (nWin xs days i : Int) ∧ nUp xs days i = nWin xs days i) := by
  have hsp := nWin_split h days hi
  by_cases h0 : 0 < i ∧ (xs[i - 1]'(by omega)).Day = xs[i].Day
  · have e : nWin xs days (i - 1) = nWin xs days i := by
      rw [nWin_at hi, nWin_at (show i - 1 < xs.length by omega), h0.2]
    have hg := wdTo_ge xs days i (i - 1) (by omega) (by omega)
    rw [hw, e] at hg
    simp only at hg
    omega
  · have hz : ((xs.take i).filter (qWin xs[i].Day (xs[i].Day + days))).length = 0 := by
      rw [List.length_eq_zero_iff, List.filter_eq_nil_iff]
      intro x hx
      obtain ⟨j, hj, rfl⟩ := List.getElem_of_mem hx
      rw [List.getElem_take]
      rw [List.length_take] at hj
      have h1 := days_le h (i := j) (j := i - 1) (by omega) (by omega)
      have h2 := ltIncident_day' (vlIncident_lt h i hi (by omega))
      have h3 : (xs[i - 1]'(by omega)).Day ≠ xs[i].Day := fun e => h0 ⟨by omega, e⟩
      simp only [qWin, decide_eq_false (show ¬ xs[i].Day ≤ xs[j].Day by omega), Bool.false_and]
      simp
    omega
theorem wdTo_yes' {xs : List SIncident} (h : vlIncident xs = true) {days m d : Int} {i : Nat} (hi : i < xs.length) (hw : wdTo xs days i = (m, d)) (hm : m < (nUp xs days i : Int)) : wdTo xs days (i + 1) = ((nUp xs days i : Int), xs[i].Day) := by
  obtain ⟨h1, h2⟩ := (nUp_same h hi hw).1 hm
  rw [wdTo_yes hi hw h1, h2]
theorem wdTo_no' {xs : List SIncident} (h : vlIncident xs = true) {days m d : Int} {i : Nat} (hi : i < xs.length) (hw : wdTo xs days i = (m, d)) (hm : ¬ m < (nUp xs days i : Int)) : wdTo xs days (i + 1) = (m, d) := by
  refine wdTo_no hi hw fun h1 => ?_
  have hsp := nWin_split h days hi
  by_cases h0 : 0 < i ∧ (xs[i - 1]'(by omega)).Day = xs[i].Day
  · have e : nWin xs days (i - 1) = nWin xs days i := by
      rw [nWin_at hi, nWin_at (show i - 1 < xs.length by omega), h0.2]
    have hg := wdTo_ge xs days i (i - 1) (by omega) (by omega)
    rw [hw, e] at hg
    simp only at hg
    omega
  · have hz : ((xs.take i).filter (qWin xs[i].Day (xs[i].Day + days))).length = 0 := by
      rw [List.length_eq_zero_iff, List.filter_eq_nil_iff]
      intro x hx
      obtain ⟨j, hj, rfl⟩ := List.getElem_of_mem hx
      rw [List.getElem_take]
      rw [List.length_take] at hj
      have h1 := days_le h (i := j) (j := i - 1) (by omega) (by omega)
      have h2 := ltIncident_day' (vlIncident_lt h i hi (by omega))
      have h3 : (xs[i - 1]'(by omega)).Day ≠ xs[i].Day := fun e => h0 ⟨by omega, e⟩
      simp only [qWin, decide_eq_false (show ¬ xs[i].Day ≤ xs[j].Day by omega), Bool.false_and]
      simp
    omega
def wdRes (xs : List SIncident) (days : Int) : Int × Int × Int :=
  if vlIncident xs then (if inr 1 1000 days then (if (xs.length : Int) == 0 then (0, 0, 3) else ((wdTo xs days xs.length).1, (wdTo xs days xs.length).2, 0)) else (0, 0, 2)) else (0, 0, 1)
theorem wdHead_ {xs : List SIncident} {days : Int} (h : vlIncident xs = true) (h2 : inr 1 1000 days = true) (h3 : ((xs.length : Int) == 0) = false) : wdRes xs days = ((wdTo xs days xs.length).1, (wdTo xs days xs.length).2, 0) := by
  rw [wdRes, if_pos h, if_pos h2, if_neg (by rw [h3]; simp)]
theorem drop_arg {w : World} {b : Nat} {xs : List SIncident} (A : Arr SIncident.cells 6 w b xs) (i : Nat) : ArgC SIncident.cells 6 w b (i * 6) (xs.drop i) := by
  refine ⟨A.1, fun j hj k v hv => ?_⟩
  rw [List.length_drop] at hj
  rw [List.getElem_drop] at hv
  rw [show i * 6 + j * 6 + k = (i + j) * 6 + k by omega]
  exact A.2 (i + j) (by omega) k v hv
theorem WithinDays_any (xs : List SIncident) (b : Nat) (days : Int) (w : World) (A : Arr SIncident.cells 6 w b xs) (hn : xs.length ≤ 1048576) (hf : ∀ i (h : i < xs.length), xs[i].Place.size ≤ 9223372036854775807 ∧ xs[i].Cause.size ≤ 9223372036854775807) :
    Calls Try.prog 26 #[.slice (some ⟨b, 0, none⟩) xs.length xs.length, .int .i64 days] w fun e w' => e = .returned (.tuple #[.int .i64 (wdRes xs days).1, .int .i64 (wdRes xs days).2.1, .int .i64 (wdRes xs days).2.2]) ∧ Below w.heap.size w w' := by
  have HA := Lib.hid A
  have HF := Lib.hid hf
  clear A hf
  go_enter Try.func26, Try.ntmps26
  go_wp2_with (first | (go_at_call 24; refine (ValidIncidents_any xs b _ _ HA.out hn HF.out).mono ?_; rintro e w1 ⟨rfl, hb1⟩) | (go_at_call 45; refine (daysOk_any _ _).mono ?_; rintro e w' ⟨rfl, rfl⟩))
  all_goals try (go_ret3; exact ⟨ret_int3 (by (try simp only [Bool.not_eq_true', Bool.not_eq_false', Bool.not_eq_true] at *); simp [wdRes, *]) (by (try simp only [Bool.not_eq_true', Bool.not_eq_false', Bool.not_eq_true] at *); simp [wdRes, *]) (by (try simp only [Bool.not_eq_true', Bool.not_eq_false', Bool.not_eq_true] at *); simp [wdRes, *]), (by repeat (first | (with_reducible assumption) | (with_reducible exact Below.refl _ _) | (with_reducible refine Bel.alloc ?_ _) | (with_reducible refine Below.drew ?_) | (with_reducible refine Bel.drewN ?_ _) | (with_reducible refine Bel.setCell ?_ (by (try simp) <;> omega) _) | (with_reducible refine Bel.trans ?_ (by assumption))))⟩)
  have hv : vlIncident xs = true := (by first | assumption | exact not_f (by assumption) | exact not_t (by assumption))
  have hd0 : inr 1 1000 days = true := (by first | assumption | exact not_f (by assumption) | exact not_t (by assumption))
  have hz : ((xs.length : Int) == 0) = false := by assumption
  obtain ⟨hd1, hd2⟩ := inr_bd' hd0
  have hlen := vlIncident_len hv
  have hr := wdHead_ hv hd0 hz
  simp only [hv, hd0, hz, Bool.not_true]
  have HV := Lib.hid hv
  have HR := Lib.hid hr
  clear hv hd0 hr
  go_loopw [7, 8, 28] (fun mo fi i wr => ∃ (k : Nat) (m d : Int), k ≤ xs.length ∧ i = .int .i64 k ∧ mo = .int .i64 m ∧ fi = .int .i64 d ∧ wdTo xs days k = (m, d) ∧ Below w.heap.size w wr) (fun _ _ i wr => xs.length - (intOf i).toNat)
  case atStart => exact ⟨0, 0, 0, by omega, rfl, rfl, rfl, rfl, hb1⟩
  case round =>
    obtain ⟨k, m, d, hk, rfl, rfl, rfl, hw, hbel⟩ := hrel
    have hbm := wdTo_bd xs days hlen k
    rw [hw] at hbm
    have HW := Lib.hid hw
    clear hw
    by_cases hlt : k < xs.length
    · obtain ⟨e0, e1, e2, e3, e4, e5⟩ := SIncident.elem (HA.out.below hbel) hlt
      have hbd := okIncident_bd (vlIncident_ok HV.out k hlt)
      have hbl := (HA.out.below hbel).1
      obtain ⟨wo, rfl⟩ : ∃ wo : World, wo = wr := ⟨_, rfl⟩
      go_wp2_with fail
      refine wp_box_out ?_
      intro W hbw B
      have hbo := Bel.trans hbel hbw
      clear e0 e1 e2 e3 e4 e5
      obtain ⟨ys, hys⟩ : ∃ ys, xs.drop k = ys := ⟨_, rfl⟩
      have hyl : xs.length - k = ys.length := by rw [← hys, List.length_drop]
      have hC := drop_arg (HA.out.below hbo) k
      rw [hys] at hC
      have HC := Lib.hid hC
      have hnu : nUp xs days k = cntL (qUp (xs[k].Day + days)) ys ys.length := by rw [nUp, dif_pos hlt, hys]
      have HN := Lib.hid hnu
      have hsz := hbo.size
      have hyl2 : ys.length ≤ 48 := by omega
      rw [hyl]
      have HYS := Lib.hid hys
      clear hys hC hnu hyl
      go_loopw [11, 37] (fun n i wr => ∃ j : Nat, j ≤ ys.length ∧ i = .int .i64 j ∧ n = .int .i64 (cntL (qUp (xs[k].Day + days)) ys j) ∧ Below W.heap.size W wr) (fun _ i wr => ys.length - (intOf i).toNat)
      case atStart => exact ⟨0, by omega, rfl, rfl, Below.refl _ _⟩
      case round =>
        obtain ⟨j, hj, rfl, rfl, hbi⟩ := hrel
        have hle := cntL_le (qUp (xs[k].Day + days)) ys j
        have B' := B.below hbi
        have c0 : wr.cell? ⟨wo.heap.size, 0, none⟩ = some (.int .i64 xs[k].Day) := B'.cell 0
        have hl0 := B'.lt
        by_cases hjt : j < ys.length
        · obtain ⟨e0, e1, e2, e3, e4, e5⟩ := SIncident.arg (HC.out.below hbi HC.out.1) hjt
          have hb0 : b < wr.heap.size := Nat.lt_of_lt_of_le HC.out.1 hbi.size
          clear B'
          by_cases hq : ys[j].Day < xs[k].Day + days
          · go_wp2
            go_roundw
            case rel => exact ⟨j + 1, by omega, by go_num, by rw [cntL_yes hjt (decide_eq_true hq)]; go_num, (by repeat (first | (with_reducible assumption) | (with_reducible exact Below.refl _ _) | (with_reducible refine Bel.alloc ?_ _) | (with_reducible refine Below.drew ?_) | (with_reducible refine Bel.drewN ?_ _) | (with_reducible refine Bel.setCell ?_ (by (try simp) <;> omega) _) | (with_reducible refine Bel.trans ?_ (by assumption))))⟩
            case measure => simp [intOf]; omega
          · go_wp2
            go_roundw
            case rel => exact ⟨j + 1, by omega, by go_num, by rw [cntL_no hjt (decide_eq_false (by omega))], (by repeat (first | (with_reducible assumption) | (with_reducible exact Below.refl _ _) | (with_reducible refine Bel.alloc ?_ _) | (with_reducible refine Below.drew ?_) | (with_reducible refine Bel.drewN ?_ _) | (with_reducible refine Bel.setCell ?_ (by (try simp) <;> omega) _) | (with_reducible refine Bel.trans ?_ (by assumption))))⟩
            case measure => simp [intOf]; omega
        · obtain rfl : j = ys.length := by omega
          have hbe := Bel.trans hbo hbi
          clear B'
          by_cases hm : m < (cntL (qUp (xs[k].Day + days)) ys ys.length : Int)
          · go_wp2_with fail
            go_quiet (fail)
            go_wp2
            go_roundw
            case rel => exact ⟨k + 1, _, _, by omega, by go_num, rfl, rfl, by rw [wdTo_yes' HV.out hlt HW.out (by rw [HN.out]; exact hm), HN.out], (by repeat (first | (with_reducible assumption) | (with_reducible exact Below.refl _ _) | (with_reducible refine Bel.alloc ?_ _) | (with_reducible refine Below.drew ?_) | (with_reducible refine Bel.drewN ?_ _) | (with_reducible refine Bel.setCell ?_ (by (try simp) <;> omega) _) | (with_reducible refine Bel.trans ?_ (by assumption))))⟩
            case measure => simp [intOf]; omega
          · go_wp2
            go_roundw
            case rel => exact ⟨k + 1, m, d, by omega, by go_num, rfl, rfl, wdTo_no' HV.out hlt HW.out (by rw [HN.out]; omega), (by repeat (first | (with_reducible assumption) | (with_reducible exact Below.refl _ _) | (with_reducible refine Bel.alloc ?_ _) | (with_reducible refine Below.drew ?_) | (with_reducible refine Bel.drewN ?_ _) | (with_reducible refine Bel.setCell ?_ (by (try simp) <;> omega) _) | (with_reducible refine Bel.trans ?_ (by assumption))))⟩
            case measure => simp [intOf]; omega
    · obtain rfl : k = xs.length := by omega
      go_wp2
      go_ret3
      exact ⟨by rw [HR.out, HW.out]; rfl, hbel⟩
theorem sWithinDays_any (xs : List SIncident) (b c : Nat) (days : Int) (w : World) (A : Arr SIncident.cells 6 w b xs) (hn : xs.length ≤ 1048576) (hf : ∀ i (h : i < xs.length), xs[i].Place.size ≤ 9223372036854775807 ∧ xs[i].Cause.size ≤ 9223372036854775807) :
    Calls Try.prog 25 #[.slice (some ⟨b, 0, none⟩) xs.length c, .int .i64 days] w fun e w' => e = .returned (.tuple #[.int .i64 (wdRes xs days).1, .int .i64 (wdRes xs days).2.1, .int .i64 (wdRes xs days).2.2]) ∧ Below w.heap.size w w' := by
  have HA := Lib.hid A
  have HF := Lib.hid hf
  clear A hf
  go_enter Try.func25, Try.ntmps25
  go_wp2_with (first | (go_at_call 30; refine (l28Ok_any xs b _ _ HA.out hn HF.out).mono ?_; rintro e w1 ⟨rfl, hb1⟩) | (go_at_call 39; refine (l28Days_any _ _).mono ?_; rintro e w' ⟨rfl, rfl⟩))
  all_goals try (go_ret3; exact ⟨ret_int3 (by (try simp only [Bool.not_eq_true', Bool.not_eq_false', Bool.not_eq_true] at *); simp [wdRes, *]) (by (try simp only [Bool.not_eq_true', Bool.not_eq_false', Bool.not_eq_true] at *); simp [wdRes, *]) (by (try simp only [Bool.not_eq_true', Bool.not_eq_false', Bool.not_eq_true] at *); simp [wdRes, *]), (by repeat (first | (with_reducible assumption) | (with_reducible exact Below.refl _ _) | (with_reducible refine Bel.alloc ?_ _) | (with_reducible refine Below.drew ?_) | (with_reducible refine Bel.drewN ?_ _) | (with_reducible refine Bel.setCell ?_ (by (try simp) <;> omega) _) | (with_reducible refine Bel.trans ?_ (by assumption))))⟩)
  have hv : vlIncident xs = true := (by first | assumption | exact not_f (by assumption) | exact not_t (by assumption))
  have hd0 : inr 1 1000 days = true := (by first | assumption | exact not_f (by assumption) | exact not_t (by assumption))
  have hz : ((xs.length : Int) == 0) = false := by assumption
  obtain ⟨hd1, hd2⟩ := inr_bd' hd0
  have hlen := vlIncident_len hv
  have hr := wdHead_ hv hd0 hz
  simp only [hv, hd0, hz, Bool.not_true]
  have HV := Lib.hid hv
  have HR := Lib.hid hr
  clear hv hd0 hr
  go_loopw [7, 8, 9] (fun mo fi i wr => ∃ (k : Nat) (m d : Int), k ≤ xs.length ∧ i = .int .i64 k ∧ mo = .int .i64 m ∧ fi = .int .i64 d ∧ wdTo xs days k = (m, d) ∧ Below w.heap.size w wr) (fun _ _ i wr => xs.length - (intOf i).toNat)
  case atStart => exact ⟨0, 0, 0, by omega, rfl, rfl, rfl, rfl, hb1⟩
  case round =>
    obtain ⟨k, m, d, hk, rfl, rfl, rfl, hw, hbel⟩ := hrel
    have hbm := wdTo_bd xs days hlen k
    rw [hw] at hbm
    have HW := Lib.hid hw
    clear hw
    by_cases hlt : k < xs.length
    · obtain ⟨wo, rfl⟩ : ∃ wo : World, wo = wr := ⟨_, rfl⟩
      have hbo := hbel
      have hbd := okIncident_bd (vlIncident_ok HV.out k hlt)
      have HN : Hid (nWin xs days k = cntL (qWin xs[k].Day (xs[k].Day + days)) xs xs.length) := nWin_at hlt
      go_wp2_with fail
      go_loopw [10, 11] (fun n i wr => ∃ j : Nat, j ≤ xs.length ∧ i = .int .i64 j ∧ n = .int .i64 (cntL (qWin xs[k].Day (xs[k].Day + days)) xs j) ∧ Below w.heap.size w wr) (fun _ i wr => xs.length - (intOf i).toNat)
      case atStart => exact ⟨0, by omega, rfl, rfl, hbo⟩
      case round =>
        obtain ⟨j, hj, rfl, rfl, hbi⟩ := hrel
        have hle := cntL_le (qWin xs[k].Day (xs[k].Day + days)) xs j
        by_cases hjt : j < xs.length
        · obtain ⟨p0, p1, p2, p3, p4, p5⟩ := SIncident.elems (HA.out.below hbi) hjt
          obtain ⟨q0, q1, q2, q3, q4, q5⟩ := SIncident.elems (HA.out.below hbi) hlt
          go_wp2_with fail
          by_cases h1 : xs[k].Day ≤ xs[j].Day
          · have h1' : decide (xs[k].Day ≤ xs[j].Day) = true := decide_eq_true h1
            by_cases h2 : xs[j].Day < xs[k].Day + days
            · refine wp_region_past (by kernel_rfl) (by kernel_rfl) ?_
              repeat (go_big_quiet_step (fail))
              refine wpQuiet_nil ?_
              intro W1 hw'
              obtain ⟨⟨W_, hbx⟩, hw''⟩ := hw'
              subst hw''
              have hbi := Bel.trans hbi hbx
              clear p0 p1 p2 p3 p4 p5 q0 q1 q2 q3 q4 q5
              go_wp2
              go_roundw
              case rel => exact ⟨j + 1, by omega, by go_num, by rw [cntL_yes hjt (by rw [qWin, decide_eq_true h1, decide_eq_true h2]; rfl)]; go_num, hbi⟩
              case measure => simp [intOf]; omega
            · refine wp_region_past (by kernel_rfl) (by kernel_rfl) ?_
              repeat (go_big_quiet_step (fail))
              refine wpQuiet_nil ?_
              intro W1 hw'
              obtain ⟨⟨W_, hbx⟩, hw''⟩ := hw'
              subst hw''
              have hbi := Bel.trans hbi hbx
              clear p0 p1 p2 p3 p4 p5 q0 q1 q2 q3 q4 q5
              go_wp2
              go_roundw
              case rel => exact ⟨j + 1, by omega, by go_num, by rw [cntL_no hjt (by rw [qWin, decide_eq_false (show ¬ xs[j].Day < xs[k].Day + days by omega), Bool.and_false])], hbi⟩
              case measure => simp [intOf]; omega
          · have h1' : decide (xs[k].Day ≤ xs[j].Day) = false := decide_eq_false h1
            refine wp_region_past (by kernel_rfl) (by kernel_rfl) ?_
            repeat (go_big_quiet_step (fail))
            refine wpQuiet_nil ?_
            intro W1 hw'
            obtain ⟨⟨W_, hbx⟩, hw''⟩ := hw'
            subst hw''
            have hbi := Bel.trans hbi hbx
            clear p0 p1 p2 p3 p4 p5 q0 q1 q2 q3 q4 q5
            go_wp2
            go_roundw
            case rel => exact ⟨j + 1, by omega, by go_num, by rw [cntL_no hjt (by rw [qWin, decide_eq_false (show ¬ xs[k].Day ≤ xs[j].Day by omega), Bool.false_and])], hbi⟩
            case measure => simp [intOf]; omega
        · obtain rfl : j = xs.length := by omega
          obtain ⟨e0, e1, e2, e3, e4, e5⟩ := SIncident.elem (HA.out.below hbi) hlt
          by_cases hm : m < (cntL (qWin xs[k].Day (xs[k].Day + days)) xs xs.length : Int)
          · go_wp2
            go_roundw
            case rel => exact ⟨k + 1, _, _, by omega, by go_num, rfl, rfl, by rw [wdTo_yes hlt HW.out (by rw [HN.out]; exact hm), HN.out], hbi⟩
            case measure => simp [intOf]; omega
          · go_wp2
            go_roundw
            case rel => exact ⟨k + 1, m, d, by omega, by go_num, rfl, rfl, wdTo_no hlt HW.out (by rw [HN.out]; omega), hbi⟩
            case measure => simp [intOf]; omega
    · obtain rfl : k = xs.length := by omega
      go_wp2
      go_ret3
      exact ⟨by rw [HR.out, HW.out]; rfl, hbel⟩
end Go.Proofs.Ytabhojeikhfcfaa
