/- Chapter 4: missing hours, two stations compared: the walks. -/
import Derived.Test.YtcjalooaikfkbaaL04b
namespace Go.Proofs.Ytcjalooaikfkbaa
set_option linter.unusedSimpArgs false
set_option linter.unusedVariables false
open Go.RowKit
set_option maxHeartbeats 400000
set_option maxRecDepth 100000
def qHr (h : Int) (x : SObserved) : Bool := x.Hour == h
def mis (xs : List SObserved) (h : Int) : Bool := !hasL xs h
theorem hasQ {xs : List SObserved} (hv : vlObserved xs = true) (h : Int) : hasL xs h = anyL (qHr h) xs xs.length := has_any hv h
def mhRes (xs : List SObserved) (f u : Int) : List Int × Int :=
  if vlObserved xs then (if inr 0 100000 f && inr 0 100000 u then (if u < f then ([], 2) else if (numL (mis xs) f (u - f).toNat).length ≤ 64 then (numL (mis xs) f (u - f).toNat, 0) else ([], 5)) else ([], 2)) else ([], 1)
theorem mhRes_0 {xs : List SObserved} {f u : Int} {n : Nat} (h : vlObserved xs = true) (h1 : inr 0 100000 f = true) (h2 : inr 0 100000 u = true) (h3 : u = f + n) (h4 : (numL (mis xs) f n).length ≤ 64) : mhRes xs f u = (numL (mis xs) f n, 0) := by
  rw [mhRes, if_pos h, h1, h2, Bool.and_self, if_pos rfl, if_neg (by omega), show (u - f).toNat = n by omega, if_pos h4]
theorem mhRes_5 {xs : List SObserved} {f u : Int} {n : Nat} (h : vlObserved xs = true) (h1 : inr 0 100000 f = true) (h2 : inr 0 100000 u = true) (h3 : f + n < u) (h4 : (numL (mis xs) f n).length = 64) (h5 : mis xs (f + n) = true) : mhRes xs f u = ([], 5) := by
  have h6 := numL_le (q := mis xs) (a := f) (n := n + 1) (m := (u - f).toNat) (by omega)
  rw [numL_yes h5, List.length_append, h4] at h6
  rw [mhRes, if_pos h, h1, h2, Bool.and_self, if_pos rfl, if_neg (by omega), if_neg (by simp at h6; omega)]
theorem mhRes_len {xs : List SObserved} {f u : Int} : (mhRes xs f u).1.length ≤ 64 := by
  unfold mhRes
  split
  · split
    · split
      · simp
      · split
        · assumption
        · simp
    · simp
  · simp
theorem MissingHours_any (xs : List SObserved) (b c : Nat) (f u : Int) (w : World) (A : Arr SObserved.cells 4 w b xs) (hn : xs.length ≤ 1048576) :
    Calls Try.prog 35 #[.slice (some ⟨b, 0, none⟩) xs.length c, .int .i64 f, .int .i64 u] w fun e w' => (∃ v, e = .returned (.tuple #[v, .int .i64 (mhRes xs f u).2]) ∧ Row intc 1 2 w' w.heap.size v (mhRes xs f u).1) ∧ Below w.heap.size w w' := by
  have HA := Lib.hid A
  clear A
  go_enter Try.func35, Try.ntmps35
  go_wp2_with (first | (go_at_call 73; refine (ValidObserved_any xs b c _ HA.out hn).mono ?_; rintro e w1 ⟨rfl, hb1⟩) | (go_at_call 78; refine (hourOk_any _ _).mono ?_; rintro e w' ⟨rfl, rfl⟩))
  all_goals try (go_ret2; first | (rw [show mhRes xs f u = ([], 1) from (by (try simp only [Bool.not_eq_true', Bool.not_eq_false', Bool.not_eq_true] at *); simp [mhRes, *])]; exact ⟨⟨_, rfl, Row.nil⟩, (by repeat (first | (with_reducible assumption) | (with_reducible exact Below.refl _ _) | (with_reducible refine Bel.alloc ?_ _) | (with_reducible refine Below.drew ?_) | (with_reducible refine Bel.drewN ?_ _) | (with_reducible refine Bel.setCell ?_ (by (try simp) <;> omega) _) | (with_reducible refine Bel.trans ?_ (by assumption))))⟩) | (rw [show mhRes xs f u = ([], 2) from (by (try simp only [Bool.not_eq_true', Bool.not_eq_false', Bool.not_eq_true] at *); simp [mhRes, *])]; exact ⟨⟨_, rfl, Row.nil⟩, (by repeat (first | (with_reducible assumption) | (with_reducible exact Below.refl _ _) | (with_reducible refine Bel.alloc ?_ _) | (with_reducible refine Below.drew ?_) | (with_reducible refine Bel.drewN ?_ _) | (with_reducible refine Bel.setCell ?_ (by (try simp) <;> omega) _) | (with_reducible refine Bel.trans ?_ (by assumption))))⟩))
  have hv : vlObserved xs = true := (by first | assumption | exact not_f (by assumption) | exact not_t (by assumption))
  have hf0 : inr 0 100000 f = true := (by first | assumption | exact not_f (by assumption) | exact not_t (by assumption))
  have hu0 : inr 0 100000 u = true := (by first | assumption | exact not_f (by assumption) | exact not_t (by assumption))
  have hfu : f ≤ u := by omega
  have hlen := vlObserved_len hv
  obtain ⟨hf1, hf2⟩ := inr_bd' hf0
  obtain ⟨hu1, hu2⟩ := inr_bd' hu0
  have HV := Lib.hid hv
  have HF0 := Lib.hid hf0
  have HU0 := Lib.hid hu0
  simp only [hv, hf0, hu0, Bool.not_true]
  clear hv hf0 hu0
  go_loopw [8, 9] (fun v i wr => ∃ k : Nat, f + k ≤ u ∧ i = .int .i64 (f + k) ∧ (numL (mis xs) f k).length ≤ 64 ∧ Row intc 1 2 wr w.heap.size v (numL (mis xs) f k) ∧ Below w.heap.size w wr) (fun _ i wr => (u - intOf i).toNat)
  case atStart => exact ⟨0, by omega, by simp, by simp [numL], Row.nil, hb1⟩
  case round =>
    obtain ⟨k, hk, rfl, hle, hrow, hbel⟩ := hrel
    have HR := Lib.hid hrow
    clear hrow
    by_cases hlt : f + k < u
    · go_wp2_with fail
      refine (bins_any xs b c (f + k) _ (HA.out.below hbel) HV.out).mono ?_
      rintro e w2 ⟨rfl, hb2⟩
      have hbel := Bel.trans hbel hb2
      have HR := Lib.hid (HR.out.below hb2)
      clear hb2
      obtain ⟨pp, hpp⟩ : ∃ pp, posL xs (f + k) = pp := ⟨_, rfl⟩
      rw [hpp]
      clear hpp
      cases ha : hasL xs (f + k)
      · have hun : mis xs (f + k) = true := by rw [mis, ha]; rfl
        have HU := Lib.hid hun
        clear hun ha
        obtain ⟨D2, d2, hfv, _⟩ := HR.out.form (fun _ => rfl)
        subst hfv
        by_cases h64 : (numL (mis xs) f k).length = 64
        · have hz64 : (((numL (mis xs) f k).length : Int) == 64) = true := beq_iff_eq.mpr (by omega)
          have H64 := Lib.hid h64
          clear h64
          go_wp2
          go_ret2
          rw [mhRes_5 HV.out HF0.out HU0.out hlt H64.out HU.out]
          exact ⟨⟨_, rfl, Row.nil⟩, hbel⟩
        · have hz64 : (((numL (mis xs) f k).length : Int) == 64) = false := beq_eq_false_iff_ne.mpr (by omega)
          have hsz := hbel.size
          have hle2 : (numL (mis xs) f k).length ≤ 63 := by omega
          clear h64
          go_wp2_with (at_builtin; refine wpList_pushI rfl _ _ 38 rfl w.heap.size 2 Try.underlying38 (by kernel_rfl) (.slice D2 (numL (mis xs) f k).length d2) (numL (mis xs) f k) (f + k) rfl HR.out 1 rfl (by omega) hsz ?_; intro v' w3 hr3 hg3 hb4)
          go_roundw
          case rel => exact ⟨k + 1, by omega, by go_num, by rw [numL_yes HU.out, List.length_append]; simp; omega, by rw [numL_yes HU.out]; exact hr3, hbel.trans hb4⟩
          case measure => simp [intOf]; omega
      · have hun : mis xs (f + k) = false := by rw [mis, ha]; rfl
        have HU := Lib.hid hun
        clear hun ha
        go_wp2
        go_roundw
        case rel => exact ⟨k + 1, by omega, by go_num, by rw [numL_no HU.out]; exact hle, by rw [numL_no HU.out]; exact HR.out, hbel⟩
        case measure => simp [intOf]; omega
    · have hfin : u = f + k := by omega
      have HFI := Lib.hid hfin
      clear hfin
      go_wp2
      go_ret2
      rw [mhRes_0 HV.out HF0.out HU0.out HFI.out hle]
      exact ⟨⟨_, rfl, HR.out⟩, hbel⟩
end Go.Proofs.Ytcjalooaikfkbaa
