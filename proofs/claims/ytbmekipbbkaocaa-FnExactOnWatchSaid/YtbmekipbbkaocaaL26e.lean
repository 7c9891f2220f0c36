/- Chapter 26: who is on call, who watches, the hours when nobody watches. -/
import Derived.Test.YtbmekipbbkaocaaL26c
namespace Go.Proofs.Ytbmekipbbkaocaa
set_option linter.unusedSimpArgs false
set_option linter.unusedVariables false
open Go.RowKit
set_option maxHeartbeats 400000
set_option maxRecDepth 100000
theorem len0 {α : Type} {l : List α} (h : l[0]? = none) : l.length = 0 := by
  rcases Nat.eq_zero_or_pos l.length with h1 | h1
  · exact h1
  · rw [List.getElem?_eq_getElem h1] at h; cases h
def caRes (xs : List SWatch) (hour : Int) : ByteArray × Int := if vlWatch xs then (if inr 0 10100 hour then (match (selL (qAt hour true) nameOf xs xs.length)[0]? with | some s => (s, 0) | none => (⟨#[]⟩, 3)) else (⟨#[]⟩, 2)) else (⟨#[]⟩, 1)
theorem caRes_0 {xs : List SWatch} {hour : Int} {s : ByteArray} (h : vlWatch xs = true) (h2 : inr 0 10100 hour = true) (h3 : (selL (qAt hour true) nameOf xs xs.length)[0]? = some s) : caRes xs hour = (s, 0) := by rw [caRes, if_pos h, if_pos h2, h3]
theorem caRes_3 {xs : List SWatch} {hour : Int} (h : vlWatch xs = true) (h2 : inr 0 10100 hour = true) (h3 : (selL (qAt hour true) nameOf xs xs.length)[0]? = none) : caRes xs hour = (⟨#[]⟩, 3) := by rw [caRes, if_pos h, if_pos h2, h3]
theorem ret_si {a a' : ByteArray} {b b' : Int} (h : a = a') (h' : b = b') : Ending.returned (.tuple #[.string a, .int .i64 b]) = .returned (.tuple #[.string a', .int .i64 b']) := by rw [h, h']
theorem CallAt_any (xs : List SWatch) (b c : Nat) (hour : Int) (w : World) (A : Arr SWatch.cells 4 w b xs) (hn : xs.length ≤ 1048576) (hf : ∀ i (h : i < xs.length), xs[i].Person.size ≤ 9223372036854775807) :
    Calls Try.prog 13 #[.slice (some ⟨b, 0, none⟩) xs.length c, .int .i64 hour] w fun e w' => e = .returned (.tuple #[.string (caRes xs hour).1, .int .i64 (caRes xs hour).2]) ∧ Below w.heap.size w w' := by
  have HA := Lib.hid A
  have HF := Lib.hid hf
  clear A hf
  go_enter Try.func13, Try.ntmps13
  go_wp2_with (first | (go_at_call 34; refine (ValidWatches_any xs b c _ HA.out hn HF.out).mono ?_; rintro e w1 ⟨rfl, hb1⟩) | (go_at_call 42; refine (watchHour_any _ _).mono ?_; rintro e w' ⟨rfl, rfl⟩))
  all_goals try (go_ret2; exact ⟨ret_si (by (try simp only [Bool.not_eq_true', Bool.not_eq_false', Bool.not_eq_true] at *); simp [caRes, *]) (by (try simp only [Bool.not_eq_true', Bool.not_eq_false', Bool.not_eq_true] at *); simp [caRes, *]), (by repeat (first | (with_reducible assumption) | (with_reducible exact Below.refl _ _) | (with_reducible refine Bel.alloc ?_ _) | (with_reducible refine Below.drew ?_) | (with_reducible refine Bel.drewN ?_ _) | (with_reducible refine Bel.setCell ?_ (by (try simp) <;> omega) _) | (with_reducible refine Bel.trans ?_ (by assumption))))⟩)
  have hv : vlWatch xs = true := (by first | assumption | exact not_f (by assumption) | exact not_t (by assumption))
  have hh : inr 0 10100 hour = true := (by first | assumption | exact not_f (by assumption) | exact not_t (by assumption))
  have hlen := vlWatch_len hv
  simp only [hv, hh, Bool.not_true]
  have HV := Lib.hid hv
  have HH := Lib.hid hh
  clear hv hh
  refine (personsT_any xs b c hour w1 (HA.out.below hb1) HV.out).mono ?_
  rintro e w2 ⟨⟨v, rfl, R⟩, hb2⟩
  obtain ⟨D, d, rfl, hS⟩ := R.form (fun _ => rfl)
  have hbt := Bel.trans hb1 hb2
  clear hb1 hb2 R
  cases h0 : (selL (qAt hour true) nameOf xs xs.length)[0]? with
  | none =>
    have hl := len0 h0
    have hz : (((selL (qAt hour true) nameOf xs xs.length).length : Int) == 0) = true := beq_iff_eq.mpr (by omega)
    have H0 := Lib.hid h0
    clear h0 hl hS
    go_wp2
    go_ret2
    exact ⟨by rw [caRes_3 HV.out HH.out H0.out]; rfl, hbt⟩
  | some s =>
    have hl : 0 < (selL (qAt hour true) nameOf xs xs.length).length := (List.getElem?_eq_some_iff.1 h0).1
    have hz : (((selL (qAt hour true) nameOf xs xs.length).length : Int) == 0) = false := beq_eq_false_iff_ne.mpr (by omega)
    obtain ⟨g, o, rfl, hc⟩ := hS hl
    have c0 : w2.cell? ⟨g, o, none⟩ = some (.string s) := by
      have := hc.2 0 hl 0 (.string ((selL (qAt hour true) nameOf xs xs.length)[0])) rfl
      rw [List.getElem?_eq_getElem hl] at h0
      rw [Option.some.inj h0] at this
      simpa using this
    have H0 := Lib.hid h0
    clear h0 hS hc
    go_wp2
    go_ret2
    exact ⟨by rw [caRes_0 HV.out HH.out H0.out]; rfl, hbt⟩
theorem sCallAt_any (xs : List SWatch) (b c : Nat) (hour : Int) (w : World) (A : Arr SWatch.cells 4 w b xs) (hn : xs.length ≤ 1048576) (hf : ∀ i (h : i < xs.length), xs[i].Person.size ≤ 9223372036854775807) :
    Calls Try.prog 11 #[.slice (some ⟨b, 0, none⟩) xs.length c, .int .i64 hour] w fun e w' => e = .returned (.tuple #[.string (caRes xs hour).1, .int .i64 (caRes xs hour).2]) ∧ Below w.heap.size w w' := by
  have HA := Lib.hid A
  have HF := Lib.hid hf
  clear A hf
  go_enter Try.func11, Try.ntmps11
  go_wp2_with (first | (go_at_call 38; refine (l26Ok_any xs b c _ HA.out hn HF.out).mono ?_; rintro e w1 ⟨rfl, hb1⟩) | (go_at_call 39; refine (l26Hour_any _ _).mono ?_; rintro e w' ⟨rfl, rfl⟩))
  all_goals try (go_ret2; exact ⟨ret_si (by (try simp only [Bool.not_eq_true', Bool.not_eq_false', Bool.not_eq_true] at *); simp [caRes, *]) (by (try simp only [Bool.not_eq_true', Bool.not_eq_false', Bool.not_eq_true] at *); simp [caRes, *]), (by repeat (first | (with_reducible assumption) | (with_reducible exact Below.refl _ _) | (with_reducible refine Bel.alloc ?_ _) | (with_reducible refine Below.drew ?_) | (with_reducible refine Bel.drewN ?_ _) | (with_reducible refine Bel.setCell ?_ (by (try simp) <;> omega) _) | (with_reducible refine Bel.trans ?_ (by assumption))))⟩)
  have hv : vlWatch xs = true := (by first | assumption | exact not_f (by assumption) | exact not_t (by assumption))
  have hh : inr 0 10100 hour = true := (by first | assumption | exact not_f (by assumption) | exact not_t (by assumption))
  have hlen := vlWatch_len hv
  simp only [hv, hh, Bool.not_true]
  have HV := Lib.hid hv
  have HH := Lib.hid hh
  clear hv hh
  go_loopw [6] (fun i wr => ∃ k : Nat, k ≤ xs.length ∧ i = .int .i64 k ∧ selL (qAt hour true) nameOf xs k = [] ∧ Below w.heap.size w wr) (fun i wr => xs.length - (intOf i).toNat)
  case atStart => exact ⟨0, by omega, rfl, rfl, hb1⟩
  case round =>
    obtain ⟨k, hk, rfl, hnil, hbel⟩ := hrel
    have HN := Lib.hid hnil
    clear hnil
    by_cases hlt : k < xs.length
    · obtain ⟨e0, e1, e2, e3⟩ := SWatch.elem (HA.out.below hbel) hlt
      have hat : Hid (∀ W', Below wr.heap.size wr W' → Calls Try.prog 40 #[.pointer (some ⟨b, k * 4, none⟩), .int .i64 hour] W' fun e w' => e = .returned (.bool (inW hour xs[k])) ∧ Below W'.heap.size W' w') := fun W' hW => by
        obtain ⟨g0, g1, g2, g3⟩ := SWatch.elem ((HA.out.below hbel).below hW) hlt
        exact l26At_any xs[k] b (k * 4) hour W' g0 g1 g2 g3 (vlWatch_ok HV.out k hlt)
      cases ho : xs[k].OnCall
      · rw [ho] at e3
        have HO := Lib.hid ho
        clear ho
        go_wp2
        go_roundw
        case rel => exact ⟨k + 1, by omega, by go_num, by rw [selL_no hlt (by rw [qAt, HO.out]; rfl)]; exact HN.out, hbel⟩
        case measure => simp [intOf]; omega
      · rw [ho] at e3
        have HO := Lib.hid ho
        clear ho
        cases hq : inW hour xs[k]
        · have HQ := Lib.hid hq
          clear hq
          go_wp2_with fail
          refine (Calls.boolIs HQ.out (hat.out _ (Below.refl _ _))).mono ?_
          rintro e w2 ⟨rfl, hb2⟩
          go_wp2
          go_roundw
          case rel => exact ⟨k + 1, by omega, by go_num, by rw [selL_no hlt (by rw [qAt_in HO.out, HQ.out])]; exact HN.out, Bel.trans hbel hb2⟩
          case measure => simp [intOf]; omega
        · have HQ := Lib.hid hq
          clear hq
          go_wp2_with fail
          refine (Calls.boolIs HQ.out (hat.out _ (Below.refl _ _))).mono ?_
          rintro e w2 ⟨rfl, hb2⟩
          have hbel := Bel.trans hbel hb2
          obtain ⟨e0, e1, e2, e3⟩ := SWatch.elem (HA.out.below hbel) hlt
          go_wp2
          go_ret2
          exact ⟨by rw [caRes_0 HV.out HH.out (selL_head hlt HN.out (by rw [qAt_in HO.out, HQ.out]))]; rfl, hbel⟩
    · obtain rfl : k = xs.length := by omega
      go_wp2
      go_ret2
      exact ⟨by rw [caRes_3 HV.out HH.out (by rw [HN.out]; rfl)]; rfl, hbel⟩
def owRes (xs : List SWatch) (hour : Int) : List ByteArray × Int := if vlWatch xs then (if inr 0 10100 hour then (selL (qAt hour false) nameOf xs xs.length, 0) else ([], 2)) else ([], 1)
theorem owRes_0 {xs : List SWatch} {hour : Int} (h : vlWatch xs = true) (h2 : inr 0 10100 hour = true) : owRes xs hour = (selL (qAt hour false) nameOf xs xs.length, 0) := by rw [owRes, if_pos h, if_pos h2]
theorem owRes_len (xs : List SWatch) (hour : Int) : (owRes xs hour).1.length ≤ xs.length := by
  unfold owRes
  split
  · split
    · exact selL_len _ _ _ _
    · simp
  · simp
theorem OnWatch_any (xs : List SWatch) (b c : Nat) (hour : Int) (w : World) (A : Arr SWatch.cells 4 w b xs) (hn : xs.length ≤ 1048576) (hf : ∀ i (h : i < xs.length), xs[i].Person.size ≤ 9223372036854775807) :
    Calls Try.prog 18 #[.slice (some ⟨b, 0, none⟩) xs.length c, .int .i64 hour] w fun e w' => (∃ v, e = .returned (.tuple #[v, .int .i64 (owRes xs hour).2]) ∧ Row strc 1 9 w' w.heap.size v (owRes xs hour).1) ∧ Below w.heap.size w w' := by
  have HA := Lib.hid A
  have HF := Lib.hid hf
  clear A hf
  go_enter Try.func18, Try.ntmps18
  go_wp2_with (first | (go_at_call 34; refine (ValidWatches_any xs b c _ HA.out hn HF.out).mono ?_; rintro e w1 ⟨rfl, hb1⟩) | (go_at_call 42; refine (watchHour_any _ _).mono ?_; rintro e w' ⟨rfl, rfl⟩))
  all_goals try (go_ret2; first | (rw [show owRes xs hour = ([], 1) from (by (try simp only [Bool.not_eq_true', Bool.not_eq_false', Bool.not_eq_true] at *); simp [owRes, *])]; exact ⟨⟨_, rfl, Row.nil⟩, (by repeat (first | (with_reducible assumption) | (with_reducible exact Below.refl _ _) | (with_reducible refine Bel.alloc ?_ _) | (with_reducible refine Below.drew ?_) | (with_reducible refine Bel.drewN ?_ _) | (with_reducible refine Bel.setCell ?_ (by (try simp) <;> omega) _) | (with_reducible refine Bel.trans ?_ (by assumption))))⟩) | (rw [show owRes xs hour = ([], 2) from (by (try simp only [Bool.not_eq_true', Bool.not_eq_false', Bool.not_eq_true] at *); simp [owRes, *])]; exact ⟨⟨_, rfl, Row.nil⟩, (by repeat (first | (with_reducible assumption) | (with_reducible exact Below.refl _ _) | (with_reducible refine Bel.alloc ?_ _) | (with_reducible refine Below.drew ?_) | (with_reducible refine Bel.drewN ?_ _) | (with_reducible refine Bel.setCell ?_ (by (try simp) <;> omega) _) | (with_reducible refine Bel.trans ?_ (by assumption))))⟩))
  have hv : vlWatch xs = true := (by first | assumption | exact not_f (by assumption) | exact not_t (by assumption))
  have hh : inr 0 10100 hour = true := (by first | assumption | exact not_f (by assumption) | exact not_t (by assumption))
  have hlen := vlWatch_len hv
  simp only [hv, hh, Bool.not_true]
  have HV := Lib.hid hv
  have HH := Lib.hid hh
  clear hv hh
  refine (personsF_any xs b c hour w1 (HA.out.below hb1) HV.out).mono ?_
  rintro e w2 ⟨⟨v, rfl, R⟩, hb2⟩
  go_wp2
  go_ret2
  rw [owRes_0 HV.out HH.out]
  exact ⟨⟨_, rfl, R.lower hb1.size⟩, Bel.trans hb1 hb2⟩
theorem sOnWatch_any (xs : List SWatch) (b c : Nat) (hour : Int) (w : World) (A : Arr SWatch.cells 4 w b xs) (hn : xs.length ≤ 1048576) (hf : ∀ i (h : i < xs.length), xs[i].Person.size ≤ 9223372036854775807) :
    Calls Try.prog 17 #[.slice (some ⟨b, 0, none⟩) xs.length c, .int .i64 hour] w fun e w' => (∃ v, e = .returned (.tuple #[v, .int .i64 (owRes xs hour).2]) ∧ Row strc 1 9 w' w.heap.size v (owRes xs hour).1) ∧ Below w.heap.size w w' := by
  have HA := Lib.hid A
  have HF := Lib.hid hf
  clear A hf
  go_enter Try.func17, Try.ntmps17
  go_wp2_with (first | (go_at_call 38; refine (l26Ok_any xs b c _ HA.out hn HF.out).mono ?_; rintro e w1 ⟨rfl, hb1⟩) | (go_at_call 39; refine (l26Hour_any _ _).mono ?_; rintro e w' ⟨rfl, rfl⟩))
  all_goals try (go_ret2; first | (rw [show owRes xs hour = ([], 1) from (by (try simp only [Bool.not_eq_true', Bool.not_eq_false', Bool.not_eq_true] at *); simp [owRes, *])]; exact ⟨⟨_, rfl, Row.nil⟩, (by repeat (first | (with_reducible assumption) | (with_reducible exact Below.refl _ _) | (with_reducible refine Bel.alloc ?_ _) | (with_reducible refine Below.drew ?_) | (with_reducible refine Bel.drewN ?_ _) | (with_reducible refine Bel.setCell ?_ (by (try simp) <;> omega) _) | (with_reducible refine Bel.trans ?_ (by assumption))))⟩) | (rw [show owRes xs hour = ([], 2) from (by (try simp only [Bool.not_eq_true', Bool.not_eq_false', Bool.not_eq_true] at *); simp [owRes, *])]; exact ⟨⟨_, rfl, Row.nil⟩, (by repeat (first | (with_reducible assumption) | (with_reducible exact Below.refl _ _) | (with_reducible refine Bel.alloc ?_ _) | (with_reducible refine Below.drew ?_) | (with_reducible refine Bel.drewN ?_ _) | (with_reducible refine Bel.setCell ?_ (by (try simp) <;> omega) _) | (with_reducible refine Bel.trans ?_ (by assumption))))⟩))
  have hv : vlWatch xs = true := (by first | assumption | exact not_f (by assumption) | exact not_t (by assumption))
  have hh : inr 0 10100 hour = true := (by first | assumption | exact not_f (by assumption) | exact not_t (by assumption))
  have hlen := vlWatch_len hv
  simp only [hv, hh, Bool.not_true]
  have HV := Lib.hid hv
  have HH := Lib.hid hh
  clear hv hh
  go_loopw [6, 7] (fun v i wr => ∃ k : Nat, k ≤ xs.length ∧ i = .int .i64 k ∧ Row strc 1 9 wr w.heap.size v (selL (qAt hour false) nameOf xs k) ∧ Below w.heap.size w wr) (fun _ i wr => xs.length - (intOf i).toNat)
  case atStart => exact ⟨0, by omega, rfl, Row.empty hb1.size, Bel.alloc hb1 _⟩
  case round =>
    obtain ⟨k, hk, rfl, hrow, hbel⟩ := hrel
    have HR := Lib.hid hrow
    clear hrow
    by_cases hlt : k < xs.length
    · obtain ⟨e0, e1, e2, e3⟩ := SWatch.elem (HA.out.below hbel) hlt
      have hle := selL_len (qAt hour false) nameOf xs k
      have hat : Hid (∀ W', Below wr.heap.size wr W' → Calls Try.prog 40 #[.pointer (some ⟨b, k * 4, none⟩), .int .i64 hour] W' fun e w' => e = .returned (.bool (inW hour xs[k])) ∧ Below W'.heap.size W' w') := fun W' hW => by
        obtain ⟨g0, g1, g2, g3⟩ := SWatch.elem ((HA.out.below hbel).below hW) hlt
        exact l26At_any xs[k] b (k * 4) hour W' g0 g1 g2 g3 (vlWatch_ok HV.out k hlt)
      cases ho : xs[k].OnCall
      · rw [ho] at e3
        have HO := Lib.hid ho
        clear ho
        cases hq : inW hour xs[k]
        · have HQ := Lib.hid hq
          clear hq
          go_wp2_with fail
          refine (Calls.boolIs HQ.out (hat.out _ (Below.refl _ _))).mono ?_
          rintro e w2 ⟨rfl, hb2⟩
          go_wp2
          go_roundw
          case rel => exact ⟨k + 1, by omega, by go_num, by rw [selL_no hlt (by rw [qAt_in HO.out, HQ.out])]; exact HR.out.below hb2, Bel.trans hbel hb2⟩
          case measure => simp [intOf]; omega
        · have HQ := Lib.hid hq
          clear hq
          go_wp2_with fail
          refine (Calls.boolIs HQ.out (hat.out _ (Below.refl _ _))).mono ?_
          rintro e w2 ⟨rfl, hb2⟩
          have hbel := Bel.trans hbel hb2
          have HR := Lib.hid (HR.out.below hb2)
          obtain ⟨e0, e1, e2, e3⟩ := SWatch.elem (HA.out.below hbel) hlt
          have hsz := hbel.size
          go_wp2_with (at_builtin; refine wpList_pushS rfl _ _ 33 rfl w.heap.size 9 Try.underlying33 (by kernel_rfl) u6 (selL (qAt hour false) nameOf xs k) xs[k].Person rfl HR.out 1 rfl (by omega) hsz ?_; intro v' w3 hr3 hg3 hb4)
          go_roundw
          case rel => exact ⟨k + 1, by omega, by go_num, by rw [selL_yes hlt (by rw [qAt_in HO.out, HQ.out])]; exact hr3, hbel.trans hb4⟩
          case measure => simp [intOf]; omega
      · rw [ho] at e3
        have HO := Lib.hid ho
        clear ho
        go_wp2
        go_roundw
        case rel => exact ⟨k + 1, by omega, by go_num, by rw [selL_no hlt (by rw [qAt, HO.out]; rfl)]; exact HR.out, hbel⟩
        case measure => simp [intOf]; omega
    · obtain rfl : k = xs.length := by omega
      go_wp2
      go_ret2
      rw [owRes_0 HV.out HH.out]
      exact ⟨⟨_, rfl, HR.out⟩, hbel⟩
def unc (xs : List SWatch) (h : Int) : Bool := !anyL (qAt h false) xs xs.length
def uwRes (xs : List SWatch) (f u : Int) : List Int × Int :=
  if vlWatch xs then (if inr 0 10100 f && inr 0 10100 u then (if u < f then ([], 2) else if (numL (unc xs) f (u - f).toNat).length ≤ 64 then (numL (unc xs) f (u - f).toNat, 0) else ([], 5)) else ([], 2)) else ([], 1)
theorem uwRes_0 {xs : List SWatch} {f u : Int} {n : Nat} (h : vlWatch xs = true) (h1 : inr 0 10100 f = true) (h2 : inr 0 10100 u = true) (h3 : u = f + n) (h4 : (numL (unc xs) f n).length ≤ 64) : uwRes xs f u = (numL (unc xs) f n, 0) := by
  rw [uwRes, if_pos h, h1, h2, Bool.and_self, if_pos rfl, if_neg (by omega), show (u - f).toNat = n by omega, if_pos h4]
theorem uwRes_5 {xs : List SWatch} {f u : Int} {n : Nat} (h : vlWatch xs = true) (h1 : inr 0 10100 f = true) (h2 : inr 0 10100 u = true) (h3 : f + n < u) (h4 : (numL (unc xs) f n).length = 64) (h5 : unc xs (f + n) = true) : uwRes xs f u = ([], 5) := by
  have h6 := numL_le (q := unc xs) (a := f) (n := n + 1) (m := (u - f).toNat) (by omega)
  rw [numL_yes h5, List.length_append, h4] at h6
  rw [uwRes, if_pos h, h1, h2, Bool.and_self, if_pos rfl, if_neg (by omega), if_neg (by simp at h6; omega)]
theorem uwRes_len (xs : List SWatch) (f u : Int) : (uwRes xs f u).1.length ≤ 64 := by
  unfold uwRes
  split
  · split
    · split
      · simp
      · split
        · assumption
        · simp
    · simp
  · simp
theorem UnwatchedHours_any (xs : List SWatch) (b c : Nat) (f u : Int) (w : World) (A : Arr SWatch.cells 4 w b xs) (hn : xs.length ≤ 1048576) (hf : ∀ i (h : i < xs.length), xs[i].Person.size ≤ 9223372036854775807) :
    Calls Try.prog 29 #[.slice (some ⟨b, 0, none⟩) xs.length c, .int .i64 f, .int .i64 u] w fun e w' => (∃ v, e = .returned (.tuple #[v, .int .i64 (uwRes xs f u).2]) ∧ Row intc 1 2 w' w.heap.size v (uwRes xs f u).1) ∧ Below w.heap.size w w' := by
  have HA := Lib.hid A
  have HF := Lib.hid hf
  clear A hf
  go_enter Try.func29, Try.ntmps29
  go_wp2_with (first | (go_at_call 34; refine (ValidWatches_any xs b c _ HA.out hn HF.out).mono ?_; rintro e w1 ⟨rfl, hb1⟩) | (go_at_call 42; refine (watchHour_any _ _).mono ?_; rintro e w' ⟨rfl, rfl⟩))
  all_goals try (go_ret2; first | (rw [show uwRes xs f u = ([], 1) from (by (try simp only [Bool.not_eq_true', Bool.not_eq_false', Bool.not_eq_true] at *); simp [uwRes, *])]; exact ⟨⟨_, rfl, Row.nil⟩, (by repeat (first | (with_reducible assumption) | (with_reducible exact Below.refl _ _) | (with_reducible refine Bel.alloc ?_ _) | (with_reducible refine Below.drew ?_) | (with_reducible refine Bel.drewN ?_ _) | (with_reducible refine Bel.setCell ?_ (by (try simp) <;> omega) _) | (with_reducible refine Bel.trans ?_ (by assumption))))⟩) | (rw [show uwRes xs f u = ([], 2) from (by (try simp only [Bool.not_eq_true', Bool.not_eq_false', Bool.not_eq_true] at *); simp [uwRes, *])]; exact ⟨⟨_, rfl, Row.nil⟩, (by repeat (first | (with_reducible assumption) | (with_reducible exact Below.refl _ _) | (with_reducible refine Bel.alloc ?_ _) | (with_reducible refine Below.drew ?_) | (with_reducible refine Bel.drewN ?_ _) | (with_reducible refine Bel.setCell ?_ (by (try simp) <;> omega) _) | (with_reducible refine Bel.trans ?_ (by assumption))))⟩))
  have hv : vlWatch xs = true := (by first | assumption | exact not_f (by assumption) | exact not_t (by assumption))
  have hf0 : inr 0 10100 f = true := (by first | assumption | exact not_f (by assumption) | exact not_t (by assumption))
  have hu0 : inr 0 10100 u = true := (by first | assumption | exact not_f (by assumption) | exact not_t (by assumption))
  have hfu : f ≤ u := by omega
  have hlen := vlWatch_len hv
  obtain ⟨hf1, hf2⟩ := inr_bd' hf0
  obtain ⟨hu1, hu2⟩ := inr_bd' hu0
  have HV := Lib.hid hv
  have HF0 := Lib.hid hf0
  have HU0 := Lib.hid hu0
  simp only [hv, hf0, hu0, Bool.not_true]
  clear hv hf0 hu0
  go_loopw [8, 9] (fun v i wr => ∃ k : Nat, f + k ≤ u ∧ i = .int .i64 (f + k) ∧ (numL (unc xs) f k).length ≤ 64 ∧ Row intc 1 2 wr w.heap.size v (numL (unc xs) f k) ∧ Below w.heap.size w wr) (fun _ i wr => (u - intOf i).toNat)
  case atStart => exact ⟨0, by omega, by simp, by simp [numL], Row.nil, hb1⟩
  case round =>
    obtain ⟨k, hk, rfl, hle, hrow, hbel⟩ := hrel
    have HR := Lib.hid hrow
    clear hrow
    by_cases hlt : f + k < u
    · go_wp2_with fail
      refine (personsF_any xs b c (f + k) _ (HA.out.below hbel) HV.out).mono ?_
      rintro e w2 ⟨⟨v, rfl, R1⟩, hb2⟩
      obtain ⟨D, d, rfl, hS⟩ := R1.form (fun _ => rfl)
      have hbel := Bel.trans hbel hb2
      have HR := Lib.hid (HR.out.below hb2)
      have hanys := anyL_sel (qAt (f + k) false) nameOf xs xs.length
      clear hS R1 hb2
      cases ha : anyL (qAt (f + k) false) xs xs.length
      · rw [ha] at hanys
        have hzz : ¬ 0 < (selL (qAt (f + k) false) nameOf xs xs.length).length := by simpa using hanys
        have hz : decide (0 < (selL (qAt (f + k) false) nameOf xs xs.length).length) = false := decide_eq_false (by omega)
        have hun : unc xs (f + k) = true := by rw [unc, ha]; rfl
        have HU := Lib.hid hun
        clear hanys hun ha hzz
        obtain ⟨D2, d2, hfv, _⟩ := HR.out.form (fun _ => rfl)
        subst hfv
        by_cases h64 : (numL (unc xs) f k).length = 64
        · have hz64 : (((numL (unc xs) f k).length : Int) == 64) = true := beq_iff_eq.mpr (by omega)
          have H64 := Lib.hid h64
          clear h64
          go_wp2
          go_ret2
          rw [uwRes_5 HV.out HF0.out HU0.out hlt H64.out HU.out]
          exact ⟨⟨_, rfl, Row.nil⟩, hbel⟩
        · have hz64 : (((numL (unc xs) f k).length : Int) == 64) = false := beq_eq_false_iff_ne.mpr (by omega)
          have hsz := hbel.size
          have hle2 : (numL (unc xs) f k).length ≤ 63 := by omega
          clear h64
          go_wp2_with (at_builtin; refine wpList_pushI rfl _ _ 44 rfl w.heap.size 2 Try.underlying44 (by kernel_rfl) (.slice D2 (numL (unc xs) f k).length d2) (numL (unc xs) f k) (f + k) rfl HR.out 1 rfl (by omega) hsz ?_; intro v' w3 hr3 hg3 hb4)
          go_roundw
          case rel => exact ⟨k + 1, by omega, by go_num, by rw [numL_yes HU.out, List.length_append]; simp; omega, by rw [numL_yes HU.out]; exact hr3, hbel.trans hb4⟩
          case measure => simp [intOf]; omega
      · rw [ha] at hanys
        have hzz : 0 < (selL (qAt (f + k) false) nameOf xs xs.length).length := by simpa using hanys
        have hz : decide (0 < (selL (qAt (f + k) false) nameOf xs xs.length).length) = true := decide_eq_true (by omega)
        have hun : unc xs (f + k) = false := by rw [unc, ha]; rfl
        have HU := Lib.hid hun
        clear hanys hun ha hzz
        go_wp2
        go_roundw
        case rel => exact ⟨k + 1, by omega, by go_num, by rw [numL_no HU.out]; exact hle, by rw [numL_no HU.out]; exact HR.out, hbel⟩
        case measure => simp [intOf]; omega
    · have hfin : u = f + k := by omega
      have HFI := Lib.hid hfin
      clear hfin
      go_wp2
      go_ret2
      rw [uwRes_0 HV.out HF0.out HU0.out HFI.out hle]
      exact ⟨⟨_, rfl, HR.out⟩, hbel⟩
theorem sUnwatchedHours_any (xs : List SWatch) (b c : Nat) (f u : Int) (w : World) (A : Arr SWatch.cells 4 w b xs) (hn : xs.length ≤ 1048576) (hf : ∀ i (h : i < xs.length), xs[i].Person.size ≤ 9223372036854775807) :
    Calls Try.prog 28 #[.slice (some ⟨b, 0, none⟩) xs.length c, .int .i64 f, .int .i64 u] w fun e w' => (∃ v, e = .returned (.tuple #[v, .int .i64 (uwRes xs f u).2]) ∧ Row intc 1 2 w' w.heap.size v (uwRes xs f u).1) ∧ Below w.heap.size w w' := by
  have HA := Lib.hid A
  have HF := Lib.hid hf
  clear A hf
  go_enter Try.func28, Try.ntmps28
  go_wp2_with (first | (go_at_call 38; refine (l26Ok_any xs b c _ HA.out hn HF.out).mono ?_; rintro e w1 ⟨rfl, hb1⟩) | (go_at_call 39; refine (l26Hour_any _ _).mono ?_; rintro e w' ⟨rfl, rfl⟩))
  all_goals try (go_ret2; first | (rw [show uwRes xs f u = ([], 1) from (by (try simp only [Bool.not_eq_true', Bool.not_eq_false', Bool.not_eq_true] at *); simp [uwRes, *])]; exact ⟨⟨_, rfl, Row.nil⟩, (by repeat (first | (with_reducible assumption) | (with_reducible exact Below.refl _ _) | (with_reducible refine Bel.alloc ?_ _) | (with_reducible refine Below.drew ?_) | (with_reducible refine Bel.drewN ?_ _) | (with_reducible refine Bel.setCell ?_ (by (try simp) <;> omega) _) | (with_reducible refine Bel.trans ?_ (by assumption))))⟩) | (rw [show uwRes xs f u = ([], 2) from (by (try simp only [Bool.not_eq_true', Bool.not_eq_false', Bool.not_eq_true] at *); simp [uwRes, *])]; exact ⟨⟨_, rfl, Row.nil⟩, (by repeat (first | (with_reducible assumption) | (with_reducible exact Below.refl _ _) | (with_reducible refine Bel.alloc ?_ _) | (with_reducible refine Below.drew ?_) | (with_reducible refine Bel.drewN ?_ _) | (with_reducible refine Bel.setCell ?_ (by (try simp) <;> omega) _) | (with_reducible refine Bel.trans ?_ (by assumption))))⟩))
  have hv : vlWatch xs = true := (by first | assumption | exact not_f (by assumption) | exact not_t (by assumption))
  have hf0 : inr 0 10100 f = true := (by first | assumption | exact not_f (by assumption) | exact not_t (by assumption))
  have hu0 : inr 0 10100 u = true := (by first | assumption | exact not_f (by assumption) | exact not_t (by assumption))
  have hfu : f ≤ u := by omega
  have hlen := vlWatch_len hv
  obtain ⟨hf1, hf2⟩ := inr_bd' hf0
  obtain ⟨hu1, hu2⟩ := inr_bd' hu0
  have HV := Lib.hid hv
  have HF0 := Lib.hid hf0
  have HU0 := Lib.hid hu0
  simp only [hv, hf0, hu0, Bool.not_true]
  clear hv hf0 hu0
  go_loopw [8, 9] (fun v i wr => ∃ k : Nat, f + k ≤ u ∧ i = .int .i64 (f + k) ∧ (numL (unc xs) f k).length ≤ 64 ∧ Row intc 1 2 wr w.heap.size v (numL (unc xs) f k) ∧ Below w.heap.size w wr) (fun _ i wr => (u - intOf i).toNat)
  case atStart => exact ⟨0, by omega, by simp, by simp [numL], Row.empty hb1.size, Bel.alloc hb1 _⟩
  case round =>
    obtain ⟨k, hk, rfl, hle, hrow, hbel⟩ := hrel
    have HR := Lib.hid hrow
    clear hrow
    by_cases hlt : f + k < u
    · obtain ⟨D2, d2, rfl, _⟩ := HR.out.form (fun _ => rfl)
      obtain ⟨wo, rfl⟩ : ∃ wo : World, wo = wr := ⟨_, rfl⟩
      go_wp2_with fail
      go_loopw [10, 11] (fun cv i wr => ∃ j : Nat, j ≤ xs.length ∧ i = .int .i64 j ∧ cv = .bool (anyL (qAt (f + k) false) xs j) ∧ Below wo.heap.size wo wr) (fun _ i wr => xs.length - (intOf i).toNat)
      case atStart => exact ⟨0, by omega, rfl, rfl, Below.refl _ _⟩
      case round =>
        obtain ⟨j, hj, rfl, rfl, hbi⟩ := hrel
        by_cases hjt : j < xs.length
        · have hbj := Bel.trans hbel hbi
          obtain ⟨e0, e1, e2, e3⟩ := SWatch.elem (HA.out.below hbj) hjt
          have hat : Hid (∀ W', Below wr.heap.size wr W' → Calls Try.prog 40 #[.pointer (some ⟨b, j * 4, none⟩), .int .i64 (f + k)] W' fun e w' => e = .returned (.bool (inW (f + k) xs[j])) ∧ Below W'.heap.size W' w') := fun W' hW => by
            obtain ⟨g0, g1, g2, g3⟩ := SWatch.elem ((HA.out.below hbj).below hW) hjt
            exact l26At_any xs[j] b (j * 4) (f + k) W' g0 g1 g2 g3 (vlWatch_ok HV.out j hjt)
          have hstep := anyL_step (q := qAt (f + k) false) hjt
          cases ha : anyL (qAt (f + k) false) xs j
          · rw [ha] at hstep
            cases ho : xs[j].OnCall
            · rw [ho] at e3
              rw [qAt_in ho] at hstep
              have HS := Lib.hid hstep
              clear ho ha hstep
              cases hq : inW (f + k) xs[j]
              · have HQ := Lib.hid hq
                clear hq
                go_wp2_with fail
                refine (Calls.boolIs HQ.out (hat.out _ (Below.refl _ _))).mono ?_
                rintro e w2 ⟨rfl, hb2⟩
                go_wp2
                go_roundw
                case rel => exact ⟨j + 1, by omega, by go_num, by rw [HS.out, HQ.out]; rfl, Bel.trans hbi hb2⟩
                case measure => simp [intOf]; omega
              · have HQ := Lib.hid hq
                clear hq
                go_wp2_with fail
                refine (Calls.boolIs HQ.out (hat.out _ (Below.refl _ _))).mono ?_
                rintro e w2 ⟨rfl, hb2⟩
                go_wp2
                go_roundw
                case rel => exact ⟨j + 1, by omega, by go_num, by rw [HS.out, HQ.out]; rfl, Bel.trans hbi hb2⟩
                case measure => simp [intOf]; omega
            · rw [ho] at e3
              have hqf : qAt (f + k) false xs[j] = false := by rw [qAt, ho]; rfl
              rw [hqf] at hstep
              have HS := Lib.hid hstep
              clear ho ha hstep hqf
              go_wp2
              go_roundw
              case rel => exact ⟨j + 1, by omega, by go_num, by rw [HS.out]; rfl, hbi⟩
              case measure => simp [intOf]; omega
          · rw [ha, Bool.true_or] at hstep
            have HS := Lib.hid hstep
            clear ha hstep
            go_wp2
            go_roundw
            case rel => exact ⟨j + 1, by omega, by go_num, by rw [HS.out], hbi⟩
            case measure => simp [intOf]; omega
        · obtain rfl : j = xs.length := by omega
          have hbel := Bel.trans hbel hbi
          have HR := Lib.hid (HR.out.below hbi)
          cases ha : anyL (qAt (f + k) false) xs xs.length
          · have hun : unc xs (f + k) = true := by rw [unc, ha]; rfl
            have HU := Lib.hid hun
            clear hun ha
            by_cases h64 : (numL (unc xs) f k).length = 64
            · have hz64 : (((numL (unc xs) f k).length : Int) == 64) = true := beq_iff_eq.mpr (by omega)
              have H64 := Lib.hid h64
              clear h64
              go_wp2
              go_ret2
              rw [uwRes_5 HV.out HF0.out HU0.out hlt H64.out HU.out]
              exact ⟨⟨_, rfl, Row.nil⟩, hbel⟩
            · have hz64 : (((numL (unc xs) f k).length : Int) == 64) = false := beq_eq_false_iff_ne.mpr (by omega)
              have hsz := hbel.size
              have hle2 : (numL (unc xs) f k).length ≤ 63 := by omega
              clear h64
              go_wp2_with (at_builtin; refine wpList_pushI rfl _ _ 44 rfl w.heap.size 2 Try.underlying44 (by kernel_rfl) (.slice D2 (numL (unc xs) f k).length d2) (numL (unc xs) f k) (f + k) rfl HR.out 1 rfl (by omega) hsz ?_; intro v' w3 hr3 hg3 hb4)
              go_roundw
              case rel => exact ⟨k + 1, by omega, by go_num, by rw [numL_yes HU.out, List.length_append]; simp; omega, by rw [numL_yes HU.out]; exact hr3, hbel.trans hb4⟩
              case measure => simp [intOf]; omega
          · have hun : unc xs (f + k) = false := by rw [unc, ha]; rfl
            have HU := Lib.hid hun
            clear hun ha
            go_wp2
            go_roundw
            case rel => exact ⟨k + 1, by omega, by go_num, by rw [numL_no HU.out]; exact hle, by rw [numL_no HU.out]; exact HR.out, hbel⟩
            case measure => simp [intOf]; omega
    · have hfin : u = f + k := by omega
      have HFI := Lib.hid hfin
      clear hfin
      go_wp2
      go_ret2
      rw [uwRes_0 HV.out HF0.out HU0.out HFI.out hle]
      exact ⟨⟨_, rfl, HR.out⟩, hbel⟩
end Go.Proofs.Ytbmekipbbkaocaa
