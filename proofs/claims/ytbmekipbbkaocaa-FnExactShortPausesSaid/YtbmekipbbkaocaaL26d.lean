/- Chapter 26: watches with too little rest. -/
import Derived.Test.YtbmekipbbkaocaaL26b
import Derived.Test.YtbmekipbbkaocaaLTIntSS
namespace Go.Proofs.Ytbmekipbbkaocaa
set_option linter.unusedSimpArgs false
set_option linter.unusedVariables false
open Go.RowKit
set_option maxHeartbeats 400000
set_option maxRecDepth 100000
def qSP (rest : Int) (xs : List SWatch) (k : Nat) : Bool := if h : k + 1 < xs.length then samP xs[k] xs[k + 1] && decide (pauseOf xs[k] xs[k + 1] < rest) else false
theorem qSP_yes {rest : Int} {xs : List SWatch} {k : Nat} (h : k + 1 < xs.length) (h1 : samP xs[k] xs[k + 1] = true) (h2 : pauseOf xs[k] xs[k + 1] < rest) : qSP rest xs k = true := by rw [qSP, dif_pos h, h1, decide_eq_true h2]; rfl
theorem qSP_no1 {rest : Int} {xs : List SWatch} {k : Nat} (h : k + 1 < xs.length) (h1 : samP xs[k] xs[k + 1] = false) : qSP rest xs k = false := by rw [qSP, dif_pos h, h1]; rfl
theorem qSP_no2 {rest : Int} {xs : List SWatch} {k : Nat} (h : k + 1 < xs.length) (h2 : ¬ pauseOf xs[k] xs[k + 1] < rest) : qSP rest xs k = false := by rw [qSP, dif_pos h, decide_eq_false h2, Bool.and_false]
theorem qSP_no3 {rest : Int} {xs : List SWatch} {k : Nat} (h : ¬ k + 1 < xs.length) : qSP rest xs k = false := by rw [qSP, dif_neg h]
def spTo (rest : Int) (xs : List SWatch) : Nat → List (List Int)
  | 0 => []
  | k + 1 => if qSP rest xs k then spTo rest xs k ++ [[(k : Int), (k : Int) + 1]] else spTo rest xs k
theorem spTo_yes {rest : Int} {xs : List SWatch} {k : Nat} (h : qSP rest xs k = true) : spTo rest xs (k + 1) = spTo rest xs k ++ [[(k : Int), (k : Int) + 1]] := by rw [spTo, if_pos h]
theorem spTo_no {rest : Int} {xs : List SWatch} {k : Nat} (h : qSP rest xs k = false) : spTo rest xs (k + 1) = spTo rest xs k := by rw [spTo, if_neg (by rw [h]; simp)]
theorem spTo_len (rest : Int) (xs : List SWatch) (k : Nat) : (spTo rest xs k).length ≤ k := by
  induction k with
  | zero => simp [spTo]
  | succ k ih =>
    simp only [spTo]
    split
    · rw [List.length_append]; simp; omega
    · omega
theorem spTo_two (rest : Int) (xs : List SWatch) (k i : Nat) : (getF (spTo rest xs k) i).length ≤ 2 := by
  induction k with
  | zero => simp [spTo, getF]
  | succ k ih =>
    simp only [spTo]
    split
    · rcases Nat.lt_trichotomy i (spTo rest xs k).length with h | h | h
      · rw [getF_snoc_lt h]; exact ih
      · subst h; rw [getF_snoc_eq]; simp
      · have : getF (spTo rest xs k ++ [[(k : Int), (k : Int) + 1]]) i = [] := by simp [getF, List.getD, List.getElem?_eq_none (show (spTo rest xs k ++ [[(k : Int), (k : Int) + 1]]).length ≤ i by simp; omega)]
        rw [this]; simp
    · exact ih
def spRes (xs : List SWatch) (rest : Int) : List (List Int) × Int := if vlWatch xs then (if inr 0 100 rest then (spTo rest xs xs.length, 0) else ([], 2)) else ([], 1)
theorem spRes_0 {xs : List SWatch} {rest : Int} (h : vlWatch xs = true) (h2 : inr 0 100 rest = true) : spRes xs rest = (spTo rest xs xs.length, 0) := by rw [spRes, if_pos h, if_pos h2]
theorem spRes_len {xs : List SWatch} {rest : Int} : (spRes xs rest).1.length ≤ 32 := by
  unfold spRes
  split
  · rename_i h
    have := vlWatch_len h
    split
    · have := spTo_len rest xs xs.length; simp only; omega
    · simp
  · simp
theorem spRes_two {xs : List SWatch} {rest : Int} (i : Nat) : (getF (spRes xs rest).1 i).length ≤ 2 := by
  unfold spRes
  split
  · split
    · exact spTo_two rest xs _ i
    · simp [getF]
  · simp [getF]
theorem ShortPauses_any (xs : List SWatch) (b c : Nat) (rest : Int) (w : World) (A : Arr SWatch.cells 4 w b xs) (hn : xs.length ≤ 1048576) (hf : ∀ i (h : i < xs.length), xs[i].Person.size ≤ 9223372036854775807) :
    Calls Try.prog 24 #[.slice (some ⟨b, 0, none⟩) xs.length c, .int .i64 rest] w
    fun e w' => (∃ v, e = .returned (.tuple #[v, .int .i64 (spRes xs rest).2]) ∧ RowF 44 2 w' w.heap.size w'.heap.size v (spRes xs rest).1.length (getF (spRes xs rest).1)) ∧ Below w.heap.size w w' := by
  have HA := Lib.hid A
  have HF := Lib.hid hf
  clear A hf
  go_enter Try.func24, Try.ntmps24
  go_wp2_with (first | (go_at_call 34; refine (ValidWatches_any xs b c _ HA.out hn HF.out).mono ?_; rintro e w1 ⟨rfl, hb1⟩) | (go_at_call 50; refine (within_any _ _ _ _).mono ?_; rintro e w' ⟨rfl, rfl⟩))
  all_goals try (go_ret2; first | (rw [show spRes xs rest = ([], 1) from (by (try simp only [Bool.not_eq_true', Bool.not_eq_false', Bool.not_eq_true] at *); simp [spRes, *])]; exact ⟨⟨_, rfl, RowF.nil⟩, (by repeat (first | (with_reducible assumption) | (with_reducible exact Below.refl _ _) | (with_reducible refine Bel.alloc ?_ _) | (with_reducible refine Below.drew ?_) | (with_reducible refine Bel.drewN ?_ _) | (with_reducible refine Bel.setCell ?_ (by (try simp) <;> omega) _) | (with_reducible refine Bel.trans ?_ (by assumption))))⟩) | (rw [show spRes xs rest = ([], 2) from (by (try simp only [Bool.not_eq_true', Bool.not_eq_false', Bool.not_eq_true] at *); simp [spRes, *])]; exact ⟨⟨_, rfl, RowF.nil⟩, (by repeat (first | (with_reducible assumption) | (with_reducible exact Below.refl _ _) | (with_reducible refine Bel.alloc ?_ _) | (with_reducible refine Below.drew ?_) | (with_reducible refine Bel.drewN ?_ _) | (with_reducible refine Bel.setCell ?_ (by (try simp) <;> omega) _) | (with_reducible refine Bel.trans ?_ (by assumption))))⟩))
  have hv : vlWatch xs = true := (by first | assumption | exact not_f (by assumption) | exact not_t (by assumption))
  have hh : inr 0 100 rest = true := (by first | assumption | exact not_f (by assumption) | exact not_t (by assumption))
  have hlen := vlWatch_len hv
  simp only [hv, hh, Bool.not_true]
  have HV := Lib.hid hv
  have HH := Lib.hid hh
  clear hv hh
  go_loopw [6, 7] (fun v i wr => ∃ k : Nat, 1 ≤ k ∧ (k ≤ xs.length ∨ k = 1) ∧ i = .int .i64 k ∧ RowF 44 2 wr w.heap.size wr.heap.size v (spTo rest xs (k - 1)).length (getF (spTo rest xs (k - 1))) ∧ Below w.heap.size w wr) (fun _ i wr => xs.length - (intOf i).toNat)
  case atStart => exact ⟨1, by omega, Or.inr rfl, rfl, RowF.nil, hb1⟩
  case round =>
    obtain ⟨k, hk1, hk, rfl, hrow, hbel⟩ := hrel
    have HR := Lib.hid hrow
    clear hrow
    by_cases hlt : k < xs.length
    · have hz1 : (1 : Int) ≤ (k : Int) := by omega
      have hz2 : IntKind.i64.wrap ((k : Int) - 1) = (k : Int) - 1 := IntWalk.i64_in _ (by omega)
      have hz3 : ((k : Int) - 1).toNat = k - 1 := by omega
      have hlt' : k - 1 < xs.length := by omega
      obtain ⟨p0, p1, p2, p3⟩ := SWatch.elems (HA.out.below hbel) hlt
      obtain ⟨f0, f1, f2, f3⟩ := SWatch.elems (HA.out.below hbel) hlt'
      have hok := vlWatch_ok HV.out (k - 1) hlt'
      have hbk := okWatch_bd (vlWatch_ok HV.out k hlt)
      have hbp := okWatch_bd hok
      have hle := spTo_len rest xs (k - 1)
      have HO := Lib.hid hok
      clear hok
      have hk11 : k - 1 + 1 < xs.length := by omega
      have hkk : xs[k - 1 + 1] = xs[k] := by congr 1; omega
      have hkk2 : spTo rest xs (k - 1 + 1) = spTo rest xs (k + 1 - 1) := by congr 1; omega
      have HKK := Lib.hid hkk
      have HK2 := Lib.hid hkk2
      have hpe : pauseOf xs[k - 1] (xs[k - 1 + 1]) = xs[k].Start - ((xs[k - 1]).Start + (xs[k - 1]).Hours) := by rw [hkk, pauseOf]; omega
      have HPE := Lib.hid hpe
      clear hkk hkk2 hpe
      go_wp2_with fail
      cases ha : (xs[k].Person.toList == (xs[k-1]).Person.toList)
      · have hs : samP xs[k - 1] xs[k - 1 + 1] = false := by
          rw [HKK.out, samP]
          cases h9 : ((xs[k-1]).Person.toList == xs[k].Person.toList)
          · rfl
          · rw [beq_iff_eq] at h9; rw [h9] at ha; simp at ha
        have HS := Lib.hid hs
        clear hs
        refine wp_region_past (by kernel_rfl) (by kernel_rfl) ?_
        repeat (go_big_quiet_step (fail))
        refine wpQuiet_nil ?_
        intro W1 hw'
        obtain ⟨⟨W_, hbx⟩, hw''⟩ := hw'
        subst hw''
        have hrow := (HR.out.below hbx).up hbx.size
        have hbel := Bel.trans hbel hbx
        clear p0 p1 p2 p3 f0 f1 f2 f3
        have HRR := Lib.hid hrow
        clear hrow
        go_wp2
        go_roundw
        case rel => exact ⟨k + 1, by omega, Or.inl (by omega), by go_num, by rw [← HK2.out, spTo_no (qSP_no1 hk11 HS.out)]; exact HRR.out, hbel⟩
        case measure => simp [intOf]; omega
      · have hs : samP xs[k - 1] xs[k - 1 + 1] = true := by
          rw [HKK.out, samP, beq_iff_eq]
          rw [beq_iff_eq] at ha
          exact ha.symm
        have HS := Lib.hid hs
        clear hs
        by_cases hr : xs[k].Start - ((xs[k-1]).Start + (xs[k-1]).Hours) < rest
        · refine wp_region_past (by kernel_rfl) (by kernel_rfl) ?_
          repeat (go_big_quiet_step ((go_at_call 46; exact Past.call _ (end_any (xs[k-1]) _ HO.out))))
          refine wpQuiet_nil ?_
          intro W1 hw'
          obtain ⟨⟨W_, hbx⟩, hw''⟩ := hw'
          subst hw''
          have hrow := (HR.out.below hbx).up hbx.size
          have hbel := Bel.trans hbel hbx
          clear p0 p1 p2 p3 f0 f1 f2 f3
          have HRR := Lib.hid hrow
          have hsz := hbel.size
          clear hrow
          go_wp2_with (at_builtin; refine wpList_pushL rfl _ _ 39 rfl w.heap.size 44 2 Try.underlying39 (by kernel_rfl) u6 (spTo rest xs (k - 1)) [(k : Int) - 1, (k : Int)] #[.int .i64 ((k : Int) - 1), .int .i64 (k : Int)] rfl (fun i hi => (by rcases (show i = 0 ∨ i = 1 by (simp at hi; omega)) with rfl | rfl <;> rfl)) rfl HRR.out 1 rfl (by omega) hsz tneSS ?_; intro v' w3 hr3 hb4)
          go_roundw
          case rel => exact ⟨k + 1, by omega, Or.inl (by omega), by go_num, by rw [← HK2.out, spTo_yes (qSP_yes hk11 HS.out (by rw [HPE.out]; exact hr))]; rw [show [(k : Int) - 1, (k : Int)] = [((k - 1 : Nat) : Int), ((k - 1 : Nat) : Int) + 1] by congr 1 <;> (try congr 1) <;> omega] at hr3; exact hr3, hbel.trans hb4⟩
          case measure => simp [intOf]; omega
        · skip
          refine wp_region_past (by kernel_rfl) (by kernel_rfl) ?_
          repeat (go_big_quiet_step ((go_at_call 46; exact Past.call _ (end_any (xs[k-1]) _ HO.out))))
          refine wpQuiet_nil ?_
          intro W1 hw'
          obtain ⟨⟨W_, hbx⟩, hw''⟩ := hw'
          subst hw''
          have hrow := (HR.out.below hbx).up hbx.size
          have hbel := Bel.trans hbel hbx
          clear p0 p1 p2 p3 f0 f1 f2 f3
          have HRR := Lib.hid hrow
          clear hrow
          go_wp2
          go_roundw
          case rel => exact ⟨k + 1, by omega, Or.inl (by omega), by go_num, by rw [← HK2.out, spTo_no (qSP_no2 hk11 (by rw [HPE.out]; omega))]; exact HRR.out, hbel⟩
          case measure => simp [intOf]; omega
    · have hfin : spTo rest xs xs.length = spTo rest xs (k - 1) := by
        by_cases h0 : xs.length = 0
        · have hk0 : k = 1 := by omega
          rw [hk0, h0]
        · have hk0 : k = xs.length := by omega
          have e : xs.length = (xs.length - 1) + 1 := by omega
          rw [hk0, e]
          exact spTo_no (qSP_no3 (by omega))
      have HF2 := Lib.hid hfin
      clear hfin
      go_wp2
      go_ret2
      rw [spRes_0 HV.out HH.out, HF2.out]
      exact ⟨⟨_, rfl, HR.out⟩, hbel⟩
theorem sp_rest {xs : List SWatch} {k : Nat} {rest : Int} (hv : vlWatch xs = true) (hk : k < xs.length) : qSP rest xs k = (decide (0 ≤ restAt xs k) && decide (restAt xs k < rest)) := by
  by_cases h : k + 1 < xs.length
  · cases hs : samP xs[k] xs[k + 1]
    · rw [qSP_no1 h hs, rest_no h hs]; rfl
    · have h1 := lw_acc_eq (a := xs[k]) (b := xs[k + 1]) (vlWatch_lt hv (k + 1) h (by omega)) hs
      rw [rest_yes h hs, decide_eq_true (show 0 ≤ pauseOf xs[k] xs[k + 1] by unfold pauseOf; omega), Bool.true_and, qSP, dif_pos h, hs, Bool.true_and]
  · rw [qSP_no3 h, rest_end h]; rfl
theorem rest_bd {xs : List SWatch} {k : Nat} (hv : vlWatch xs = true) (hk : k < xs.length) : -1 ≤ restAt xs k ∧ restAt xs k ≤ 20000 := by
  by_cases h : k + 1 < xs.length
  · cases hs : samP xs[k] xs[k + 1]
    · rw [rest_no h hs]; omega
    · have h1 := lw_acc_eq (a := xs[k]) (b := xs[k + 1]) (vlWatch_lt hv (k + 1) h (by omega)) hs
      have h2 := okWatch_bd (vlWatch_ok hv (k + 1) h)
      have h3 := okWatch_bd (vlWatch_ok hv k hk)
      rw [rest_yes h hs, pauseOf]; omega
  · rw [rest_end h]; omega
theorem sShortPauses_any (xs : List SWatch) (b c : Nat) (rest : Int) (w : World) (A : Arr SWatch.cells 4 w b xs) (hn : xs.length ≤ 1048576) (hf : ∀ i (h : i < xs.length), xs[i].Person.size ≤ 9223372036854775807) :
    Calls Try.prog 23 #[.slice (some ⟨b, 0, none⟩) xs.length c, .int .i64 rest] w
    fun e w' => (∃ v, e = .returned (.tuple #[v, .int .i64 (spRes xs rest).2]) ∧ RowF 44 2 w' w.heap.size w'.heap.size v (spRes xs rest).1.length (getF (spRes xs rest).1)) ∧ Below w.heap.size w w' := by
  have HA := Lib.hid A
  have HF := Lib.hid hf
  clear A hf
  go_enter Try.func23, Try.ntmps23
  go_wp2_with (first | (go_at_call 38; refine (l26Ok_any xs b c _ HA.out hn HF.out).mono ?_; rintro e w1 ⟨rfl, hb1⟩) | (go_at_call 49; refine (l00In_any _ _ _ _).mono ?_; rintro e w' ⟨rfl, rfl⟩))
  all_goals try (go_ret2; first | (rw [show spRes xs rest = ([], 1) from (by (try simp only [Bool.not_eq_true', Bool.not_eq_false', Bool.not_eq_true] at *); simp [spRes, *])]; exact ⟨⟨_, rfl, RowF.nil⟩, (by repeat (first | (with_reducible assumption) | (with_reducible exact Below.refl _ _) | (with_reducible refine Bel.alloc ?_ _) | (with_reducible refine Below.drew ?_) | (with_reducible refine Bel.drewN ?_ _) | (with_reducible refine Bel.setCell ?_ (by (try simp) <;> omega) _) | (with_reducible refine Bel.trans ?_ (by assumption))))⟩) | (rw [show spRes xs rest = ([], 2) from (by (try simp only [Bool.not_eq_true', Bool.not_eq_false', Bool.not_eq_true] at *); simp [spRes, *])]; exact ⟨⟨_, rfl, RowF.nil⟩, (by repeat (first | (with_reducible assumption) | (with_reducible exact Below.refl _ _) | (with_reducible refine Bel.alloc ?_ _) | (with_reducible refine Below.drew ?_) | (with_reducible refine Bel.drewN ?_ _) | (with_reducible refine Bel.setCell ?_ (by (try simp) <;> omega) _) | (with_reducible refine Bel.trans ?_ (by assumption))))⟩))
  have hv : vlWatch xs = true := (by first | assumption | exact not_f (by assumption) | exact not_t (by assumption))
  have hh : inr 0 100 rest = true := (by first | assumption | exact not_f (by assumption) | exact not_t (by assumption))
  have hlen := vlWatch_len hv
  simp only [hv, hh, Bool.not_true]
  have HV := Lib.hid hv
  have HH := Lib.hid hh
  clear hv hh
  go_loopw [6, 7] (fun v i wr => ∃ k : Nat, k ≤ xs.length ∧ i = .int .i64 k ∧ RowF 44 2 wr w.heap.size wr.heap.size v (spTo rest xs k).length (getF (spTo rest xs k)) ∧ Below w.heap.size w wr) (fun _ i wr => xs.length - (intOf i).toNat)
  case atStart => exact ⟨0, by omega, rfl, RowF.empty hb1.size (by simp), Bel.alloc hb1 _⟩
  case round =>
    obtain ⟨k, hk, rfl, hrow, hbel⟩ := hrel
    have HR := Lib.hid hrow
    clear hrow
    by_cases hlt : k < xs.length
    · obtain ⟨r, hr⟩ : ∃ r, restAt xs k = r := ⟨_, rfl⟩
      have hrb := rest_bd HV.out hlt
      have hq := sp_rest (rest := rest) HV.out hlt
      rw [hr] at hrb hq
      have HRE := Lib.hid hr
      have HQ := Lib.hid hq
      have hle := spTo_len rest xs k
      clear hr hq
      go_wp2_with fail
      refine (Calls.intIs HRE.out (l26Rest_any xs b c k _ (HA.out.below hbel) hn hlt HV.out)).mono ?_
      rintro e w2 ⟨rfl, hb2⟩
      have hbel := Bel.trans hbel hb2
      have hrow := (HR.out.below hb2).up hb2.size
      have HRR := Lib.hid hrow
      have hsz := hbel.size
      clear hrow
      by_cases hr0 : 0 ≤ r
      · by_cases hr1 : r < rest
        · go_wp2_with (at_builtin; refine wpList_pushL rfl _ _ 39 rfl w.heap.size 44 2 Try.underlying39 (by kernel_rfl) u6 (spTo rest xs k) [(k : Int), (k : Int) + 1] #[.int .i64 (k : Int), .int .i64 ((k : Int) + 1)] rfl (fun i hi => (by rcases (show i = 0 ∨ i = 1 by (simp at hi; omega)) with rfl | rfl <;> rfl)) rfl HRR.out 1 rfl (by omega) hsz tneSS ?_; intro v' w3 hr3 hb4)
          go_roundw
          case rel => exact ⟨k + 1, by omega, by go_num, by rw [spTo_yes (by rw [HQ.out, decide_eq_true hr0, decide_eq_true hr1]; rfl)]; exact hr3, hbel.trans hb4⟩
          case measure => simp [intOf]; omega
        · go_wp2
          go_roundw
          case rel => exact ⟨k + 1, by omega, by go_num, by rw [spTo_no (by rw [HQ.out, decide_eq_false (show ¬ r < rest by omega), Bool.and_false])]; exact HRR.out, hbel⟩
          case measure => simp [intOf]; omega
      · go_wp2
        go_roundw
        case rel => exact ⟨k + 1, by omega, by go_num, by rw [spTo_no (by rw [HQ.out, decide_eq_false (show ¬ 0 ≤ r by omega), Bool.false_and])]; exact HRR.out, hbel⟩
        case measure => simp [intOf]; omega
    · obtain rfl : k = xs.length := by omega
      go_wp2
      go_ret2
      rw [spRes_0 HV.out HH.out]
      exact ⟨⟨_, rfl, HR.out⟩, hbel⟩
end Go.Proofs.Ytbmekipbbkaocaa
