/- Chapter 26: how long a person watches; the least pause. -/
import Derived.Test.YtbmekipbbkaocaaL26
namespace Go.Proofs.Ytbmekipbbkaocaa
set_option linter.unusedSimpArgs false
set_option linter.unusedVariables false
open Go.RowKit
set_option maxHeartbeats 400000
set_option maxRecDepth 100000
def fHrs (person : ByteArray) (x : SWatch) : Int := if (x.Person.toList == person.toList) && !x.OnCall then x.Hours else 0
theorem fHrs_bd {person : ByteArray} {xs : List SWatch} (h : vlWatch xs = true) (k : Nat) : 0 ≤ sumL (fHrs person) xs k ∧ sumL (fHrs person) xs k ≤ 48 * k :=
  sumL_bd (by omega) (fun i hi => by have := okWatch_bd (vlWatch_ok h i hi); unfold fHrs; split <;> omega) k
theorem fHrs_yes {person : ByteArray} {xs : List SWatch} {k : Nat} (hk : k < xs.length) (h : (xs[k].Person.toList == person.toList) = true) (h2 : xs[k].OnCall = false) : sumL (fHrs person) xs (k + 1) = sumL (fHrs person) xs k + xs[k].Hours := by rw [sumL_at hk, fHrs, h, h2]; rfl
theorem fHrs_no {person : ByteArray} {xs : List SWatch} {k : Nat} (hk : k < xs.length) (h : (xs[k].Person.toList == person.toList) = false) : sumL (fHrs person) xs (k + 1) = sumL (fHrs person) xs k := by rw [sumL_at hk, fHrs, h]; simp
theorem fHrs_no2 {person : ByteArray} {xs : List SWatch} {k : Nat} (hk : k < xs.length) (h2 : xs[k].OnCall = true) : sumL (fHrs person) xs (k + 1) = sumL (fHrs person) xs k := by rw [sumL_at hk, fHrs, h2]; simp
def whRes (xs : List SWatch) (person : ByteArray) : Int × Int := if vlWatch xs then (sumL (fHrs person) xs xs.length, 0) else (0, 1)
theorem WatchHours_any (xs : List SWatch) (b c : Nat) (person : ByteArray) (w : World) (A : Arr SWatch.cells 4 w b xs) (hn : xs.length ≤ 1048576) (hf : ∀ i (h : i < xs.length), xs[i].Person.size ≤ 9223372036854775807) :
    Calls Try.prog 36 #[.slice (some ⟨b, 0, none⟩) xs.length c, .string person] w fun e w' => e = .returned (.tuple #[.int .i64 (whRes xs person).1, .int .i64 (whRes xs person).2]) ∧ Below w.heap.size w w' := by
  have HA := Lib.hid A
  have HF := Lib.hid hf
  clear A hf
  go_enter Try.func36, Try.ntmps36
  go_wp2_with (go_at_call 34; refine (ValidWatches_any xs b c _ HA.out hn HF.out).mono ?_; rintro e w1 ⟨rfl, hb1⟩)
  · go_ret2
    exact ⟨ret_int2 (by (try simp only [Bool.not_eq_true', Bool.not_eq_false', Bool.not_eq_true] at *); simp [whRes, *]) (by (try simp only [Bool.not_eq_true', Bool.not_eq_false', Bool.not_eq_true] at *); simp [whRes, *]), (by repeat (first | (with_reducible assumption) | (with_reducible exact Below.refl _ _) | (with_reducible refine Bel.alloc ?_ _) | (with_reducible refine Below.drew ?_) | (with_reducible refine Bel.drewN ?_ _) | (with_reducible refine Bel.setCell ?_ (by (try simp) <;> omega) _) | (with_reducible refine Bel.trans ?_ (by assumption))))⟩
  have hv : vlWatch xs = true := (by first | assumption | exact not_f (by assumption) | exact not_t (by assumption))
  have hlen := vlWatch_len hv
  simp only [hv, Bool.not_true]
  have HV := Lib.hid hv
  clear hv
  go_loopw [6, 14] (fun s i wr => ∃ k : Nat, k ≤ xs.length ∧ i = .int .i64 k ∧ s = .int .i64 (sumL (fHrs person) xs k) ∧ Below w.heap.size w wr) (fun _ i wr => xs.length - (intOf i).toNat)
  case atStart => exact ⟨0, by omega, rfl, rfl, hb1⟩
  case round =>
    obtain ⟨k, hk, rfl, rfl, hbel⟩ := hrel
    have hB := fHrs_bd (person := person) HV.out k
    by_cases hlt : k < xs.length
    · obtain ⟨e0, e1, e2, e3⟩ := SWatch.elem (HA.out.below hbel) hlt
      have hbd := okWatch_bd (vlWatch_ok HV.out k hlt)
      cases hq : (xs[k].Person.toList == person.toList)
      · go_wp2
        go_roundw
        case rel => exact ⟨k + 1, by omega, by go_num, by rw [fHrs_no hlt hq], (by repeat (first | (with_reducible assumption) | (with_reducible exact Below.refl _ _) | (with_reducible refine Bel.alloc ?_ _) | (with_reducible refine Below.drew ?_) | (with_reducible refine Bel.drewN ?_ _) | (with_reducible refine Bel.setCell ?_ (by (try simp) <;> omega) _) | (with_reducible refine Bel.trans ?_ (by assumption))))⟩
        case measure => simp [intOf]; omega
      · cases ho : xs[k].OnCall
        · rw [ho] at e3
          have HO := Lib.hid ho
          clear ho
          go_wp2
          go_roundw
          case rel => exact ⟨k + 1, by omega, by go_num, by rw [fHrs_yes hlt hq HO.out], (by repeat (first | (with_reducible assumption) | (with_reducible exact Below.refl _ _) | (with_reducible refine Bel.alloc ?_ _) | (with_reducible refine Below.drew ?_) | (with_reducible refine Bel.drewN ?_ _) | (with_reducible refine Bel.setCell ?_ (by (try simp) <;> omega) _) | (with_reducible refine Bel.trans ?_ (by assumption))))⟩
          case measure => simp [intOf]; omega
        · rw [ho] at e3
          have HO := Lib.hid ho
          clear ho
          go_wp2
          go_roundw
          case rel => exact ⟨k + 1, by omega, by go_num, by rw [fHrs_no2 hlt HO.out], (by repeat (first | (with_reducible assumption) | (with_reducible exact Below.refl _ _) | (with_reducible refine Bel.alloc ?_ _) | (with_reducible refine Below.drew ?_) | (with_reducible refine Bel.drewN ?_ _) | (with_reducible refine Bel.setCell ?_ (by (try simp) <;> omega) _) | (with_reducible refine Bel.trans ?_ (by assumption))))⟩
          case measure => simp [intOf]; omega
    · obtain rfl : k = xs.length := by omega
      go_wp2
      go_ret2
      exact ⟨ret_int2 (by rw [whRes, HV.out]; rfl) (by rw [whRes, HV.out]; rfl), hbel⟩
theorem sWatchHours_any (xs : List SWatch) (b c : Nat) (person : ByteArray) (w : World) (A : Arr SWatch.cells 4 w b xs) (hn : xs.length ≤ 1048576) (hf : ∀ i (h : i < xs.length), xs[i].Person.size ≤ 9223372036854775807) :
    Calls Try.prog 35 #[.slice (some ⟨b, 0, none⟩) xs.length c, .string person] w fun e w' => e = .returned (.tuple #[.int .i64 (whRes xs person).1, .int .i64 (whRes xs person).2]) ∧ Below w.heap.size w w' := by
  have HA := Lib.hid A
  have HF := Lib.hid hf
  clear A hf
  go_enter Try.func35, Try.ntmps35
  go_wp2_with (go_at_call 38; refine (l26Ok_any xs b c _ HA.out hn HF.out).mono ?_; rintro e w1 ⟨rfl, hb1⟩)
  · go_ret2
    exact ⟨ret_int2 (by (try simp only [Bool.not_eq_true', Bool.not_eq_false', Bool.not_eq_true] at *); simp [whRes, *]) (by (try simp only [Bool.not_eq_true', Bool.not_eq_false', Bool.not_eq_true] at *); simp [whRes, *]), (by repeat (first | (with_reducible assumption) | (with_reducible exact Below.refl _ _) | (with_reducible refine Bel.alloc ?_ _) | (with_reducible refine Below.drew ?_) | (with_reducible refine Bel.drewN ?_ _) | (with_reducible refine Bel.setCell ?_ (by (try simp) <;> omega) _) | (with_reducible refine Bel.trans ?_ (by assumption))))⟩
  have hv : vlWatch xs = true := (by first | assumption | exact not_f (by assumption) | exact not_t (by assumption))
  have hlen := vlWatch_len hv
  simp only [hv, Bool.not_true]
  have HV := Lib.hid hv
  clear hv
  go_loopw [6, 7] (fun s i wr => ∃ k : Nat, k ≤ xs.length ∧ i = .int .i64 k ∧ s = .int .i64 (sumL (fHrs person) xs k) ∧ Below w.heap.size w wr) (fun _ i wr => xs.length - (intOf i).toNat)
  case atStart => exact ⟨0, by omega, rfl, rfl, hb1⟩
  case round =>
    obtain ⟨k, hk, rfl, rfl, hbel⟩ := hrel
    have hB := fHrs_bd (person := person) HV.out k
    by_cases hlt : k < xs.length
    · obtain ⟨e0, e1, e2, e3⟩ := SWatch.elem (HA.out.below hbel) hlt
      have hbd := okWatch_bd (vlWatch_ok HV.out k hlt)
      cases hq : (xs[k].Person.toList == person.toList)
      · go_wp2
        go_roundw
        case rel => exact ⟨k + 1, by omega, by go_num, by rw [fHrs_no hlt hq], (by repeat (first | (with_reducible assumption) | (with_reducible exact Below.refl _ _) | (with_reducible refine Bel.alloc ?_ _) | (with_reducible refine Below.drew ?_) | (with_reducible refine Bel.drewN ?_ _) | (with_reducible refine Bel.setCell ?_ (by (try simp) <;> omega) _) | (with_reducible refine Bel.trans ?_ (by assumption))))⟩
        case measure => simp [intOf]; omega
      · cases ho : xs[k].OnCall
        · rw [ho] at e3
          have HO := Lib.hid ho
          clear ho
          go_wp2
          go_roundw
          case rel => exact ⟨k + 1, by omega, by go_num, by rw [fHrs_yes hlt hq HO.out], (by repeat (first | (with_reducible assumption) | (with_reducible exact Below.refl _ _) | (with_reducible refine Bel.alloc ?_ _) | (with_reducible refine Below.drew ?_) | (with_reducible refine Bel.drewN ?_ _) | (with_reducible refine Bel.setCell ?_ (by (try simp) <;> omega) _) | (with_reducible refine Bel.trans ?_ (by assumption))))⟩
          case measure => simp [intOf]; omega
        · rw [ho] at e3
          have HO := Lib.hid ho
          clear ho
          go_wp2
          go_roundw
          case rel => exact ⟨k + 1, by omega, by go_num, by rw [fHrs_no2 hlt HO.out], (by repeat (first | (with_reducible assumption) | (with_reducible exact Below.refl _ _) | (with_reducible refine Bel.alloc ?_ _) | (with_reducible refine Below.drew ?_) | (with_reducible refine Bel.drewN ?_ _) | (with_reducible refine Bel.setCell ?_ (by (try simp) <;> omega) _) | (with_reducible refine Bel.trans ?_ (by assumption))))⟩
          case measure => simp [intOf]; omega
    · obtain rfl : k = xs.length := by omega
      go_wp2
      go_ret2
      exact ⟨ret_int2 (by rw [whRes, HV.out]; rfl) (by rw [whRes, HV.out]; rfl), hbel⟩
def pauseOf (a b : SWatch) : Int := b.Start - a.Start - a.Hours
def isP (p : ByteArray) (x : SWatch) : Bool := x.Person.toList == p.toList
def lpTo (p : ByteArray) (xs : List SWatch) : Nat → Int
  | 0 => -1
  | k + 1 => if h : k + 1 < xs.length then (if isP p xs[k] && isP p xs[k + 1] && (decide (lpTo p xs k < 0) || decide (pauseOf xs[k] xs[k + 1] < lpTo p xs k)) then pauseOf xs[k] xs[k + 1] else lpTo p xs k) else lpTo p xs k
theorem lp_yes {p : ByteArray} {xs : List SWatch} {k : Nat} {v : Int} (hk : k + 1 < xs.length) (ha : isP p xs[k] = true) (hb : isP p xs[k + 1] = true) (hv : lpTo p xs k = v) (h : v < 0 ∨ pauseOf xs[k] xs[k + 1] < v) : lpTo p xs (k + 1) = pauseOf xs[k] xs[k + 1] := by
  rw [lpTo, dif_pos hk, ha, hb, hv]
  rcases h with h | h
  · rw [decide_eq_true h]; rfl
  · rw [decide_eq_true h, Bool.or_true]; rfl
theorem lp_no0 {p : ByteArray} {xs : List SWatch} {k : Nat} {v : Int} (hk : k + 1 < xs.length) (hv : lpTo p xs k = v) (h : 0 ≤ v) (h2 : ¬ pauseOf xs[k] xs[k + 1] < v) : lpTo p xs (k + 1) = v := by
  rw [lpTo, dif_pos hk, hv, decide_eq_false (show ¬ v < 0 by omega), decide_eq_false h2]; simp
theorem lp_no1 {p : ByteArray} {xs : List SWatch} {k : Nat} {v : Int} (hk : k < xs.length) (hv : lpTo p xs k = v) (ha : isP p xs[k] = false) : lpTo p xs (k + 1) = v := by
  rw [lpTo]
  split
  · rw [ha, hv]; simp
  · exact hv
theorem lp_no2 {p : ByteArray} {xs : List SWatch} {k : Nat} {v : Int} (hk : k + 1 < xs.length) (hv : lpTo p xs k = v) (hb : isP p xs[k + 1] = false) : lpTo p xs (k + 1) = v := by
  rw [lpTo, dif_pos hk, hb, hv]; simp
theorem lp_no3 {p : ByteArray} {xs : List SWatch} {k : Nat} {v : Int} (hk : ¬ k + 1 < xs.length) (hv : lpTo p xs k = v) : lpTo p xs (k + 1) = v := by rw [lpTo, dif_neg hk, hv]
def lpRes (xs : List SWatch) (p : ByteArray) : Int × Int := if vlWatch xs then (if lpTo p xs xs.length < 0 then (0, 3) else (lpTo p xs xs.length, 0)) else (0, 1)
theorem lpRes_3 {xs : List SWatch} {p : ByteArray} {v : Int} (h : vlWatch xs = true) (hv : lpTo p xs xs.length = v) (h2 : v < 0) : lpRes xs p = (0, 3) := by rw [lpRes, if_pos h, hv, if_pos h2]
theorem lpRes_0 {xs : List SWatch} {p : ByteArray} {v : Int} (h : vlWatch xs = true) (hv : lpTo p xs xs.length = v) (h2 : ¬ v < 0) : lpRes xs p = (v, 0) := by rw [lpRes, if_pos h, hv, if_neg h2]
def orNF (n : Int) (b : Bool) : Int × Int := if b then (n, 0) else (0, 3)
theorem orNotFound_any (n : Int) (b : Bool) (w : World) : Calls Try.prog 47 #[.int .i64 n, .bool b] w fun e w' => e = .returned (.tuple #[.int .i64 (orNF n b).1, .int .i64 (orNF n b).2]) ∧ w = w' := by
  cases b
  · go_enter Try.func47, Try.ntmps47
    go_wp2
    go_ret2
    exact ⟨rfl, rfl⟩
  · go_enter Try.func47, Try.ntmps47
    go_wp2
    go_ret2
    exact ⟨rfl, rfl⟩
theorem LeastPause_any (xs : List SWatch) (b c : Nat) (p : ByteArray) (w : World) (A : Arr SWatch.cells 4 w b xs) (hn : xs.length ≤ 1048576) (hf : ∀ i (h : i < xs.length), xs[i].Person.size ≤ 9223372036854775807) :
    Calls Try.prog 16 #[.slice (some ⟨b, 0, none⟩) xs.length c, .string p] w fun e w' => e = .returned (.tuple #[.int .i64 (lpRes xs p).1, .int .i64 (lpRes xs p).2]) ∧ Below w.heap.size w w' := by
  have HA := Lib.hid A
  have HF := Lib.hid hf
  clear A hf
  go_enter Try.func16, Try.ntmps16
  go_wp2_with (go_at_call 34; refine (ValidWatches_any xs b c _ HA.out hn HF.out).mono ?_; rintro e w1 ⟨rfl, hb1⟩)
  · go_ret2
    exact ⟨ret_int2 (by (try simp only [Bool.not_eq_true', Bool.not_eq_false', Bool.not_eq_true] at *); simp [lpRes, *]) (by (try simp only [Bool.not_eq_true', Bool.not_eq_false', Bool.not_eq_true] at *); simp [lpRes, *]), (by repeat (first | (with_reducible assumption) | (with_reducible exact Below.refl _ _) | (with_reducible refine Bel.alloc ?_ _) | (with_reducible refine Below.drew ?_) | (with_reducible refine Bel.drewN ?_ _) | (with_reducible refine Bel.setCell ?_ (by (try simp) <;> omega) _) | (with_reducible refine Bel.trans ?_ (by assumption))))⟩
  have hv : vlWatch xs = true := (by first | assumption | exact not_f (by assumption) | exact not_t (by assumption))
  have hlen := vlWatch_len hv
  simp only [hv, Bool.not_true]
  have HV := Lib.hid hv
  clear hv
  go_loopw [6, 7] (fun s i wr => ∃ k : Nat, 1 ≤ k ∧ (k ≤ xs.length ∨ k = 1) ∧ i = .int .i64 k ∧ ∃ v, lpTo p xs (k - 1) = v ∧ s = .int .i64 v ∧ Below w.heap.size w wr) (fun _ i wr => xs.length - (intOf i).toNat)
  case atStart => exact ⟨1, by omega, Or.inr rfl, rfl, _, rfl, rfl, hb1⟩
  case round =>
    obtain ⟨k, hk1, hk, rfl, v, hlp, rfl, hbel⟩ := hrel
    have HL := Lib.hid hlp
    clear hlp
    by_cases hlt : k < xs.length
    · have hz1 : (1 : Int) ≤ (k : Int) := by omega
      have hz2 : IntKind.i64.wrap ((k : Int) - 1) = (k : Int) - 1 := IntWalk.i64_in _ (by omega)
      have hz3 : ((k : Int) - 1).toNat = k - 1 := by omega
      have hlt' : k - 1 < xs.length := by omega
      obtain ⟨p0, p1, p2, p3⟩ := SWatch.elems (HA.out.below hbel) hlt
      obtain ⟨f0, f1, f2, f3⟩ := SWatch.elems (HA.out.below hbel) hlt'
      have hok := vlWatch_ok HV.out (k - 1) hlt'
      have hbk := okWatch_bd (vlWatch_ok HV.out k hlt)
      have hbp := okWatch_bd hok
      have HO := Lib.hid hok
      clear hok
      go_wp2_with fail
      refine wp_region_past (by kernel_rfl) (by kernel_rfl) ?_
      repeat (go_big_quiet_step ((go_at_call 46; exact Past.call _ (end_any (xs[k-1]) _ HO.out))))
      refine wpQuiet_nil ?_
      intro W1 hw'
      obtain ⟨⟨W_, hb2⟩, hw''⟩ := hw'
      subst hw''
      have hbel := Bel.trans hbel hb2
      clear p0 p1 p2 p3 f0 f1 f2 f3
      obtain ⟨e0, e1, e2, e3⟩ := SWatch.elem (HA.out.below hbel) hlt
      obtain ⟨f0, f1, f2, f3⟩ := SWatch.elem (HA.out.below hbel) hlt'
      have hk11 : k - 1 + 1 < xs.length := by omega
      have hkk : xs[k - 1 + 1] = xs[k] := by congr 1; omega
      have hkk2 : lpTo p xs (k - 1 + 1) = lpTo p xs (k + 1 - 1) := by congr 1; omega
      have HKK := Lib.hid hkk
      have HK2 := Lib.hid hkk2
      have hpe : pauseOf xs[k - 1] (xs[k - 1 + 1]) = xs[k].Start - ((xs[k - 1]).Start + (xs[k - 1]).Hours) := by rw [hkk, pauseOf]; omega
      have HPE := Lib.hid hpe
      clear hkk hkk2 hpe
      cases ha : (xs[k].Person.toList == p.toList)
      · go_wp2
        go_roundw
        case rel => exact ⟨k + 1, by omega, Or.inl (by omega), by go_num, _, (by rw [← HK2.out]; exact lp_no2 hk11 HL.out (by rw [HKK.out]; exact ha)), rfl, hbel⟩
        case measure => simp [intOf]; omega
      · cases hb : ((xs[k-1]).Person.toList == p.toList)
        · go_wp2
          go_roundw
          case rel => exact ⟨k + 1, by omega, Or.inl (by omega), by go_num, _, (by rw [← HK2.out]; exact lp_no1 hlt' HL.out hb), rfl, hbel⟩
          case measure => simp [intOf]; omega
        · by_cases hv0 : v < 0
          · go_wp2
            go_roundw
            case rel => exact ⟨k + 1, by omega, Or.inl (by omega), by go_num, _, (by rw [← HK2.out, lp_yes hk11 hb (by rw [HKK.out]; exact ha) HL.out (Or.inl hv0), HPE.out]), rfl, hbel⟩
            case measure => simp [intOf]; omega
          · by_cases hv1 : xs[k].Start - ((xs[k-1]).Start + (xs[k-1]).Hours) < v
            · go_wp2
              go_roundw
              case rel => exact ⟨k + 1, by omega, Or.inl (by omega), by go_num, _, (by rw [← HK2.out, lp_yes hk11 hb (by rw [HKK.out]; exact ha) HL.out (Or.inr (by rw [HPE.out]; exact hv1)), HPE.out]), rfl, hbel⟩
              case measure => simp [intOf]; omega
            · go_wp2
              go_roundw
              case rel => exact ⟨k + 1, by omega, Or.inl (by omega), by go_num, _, (by rw [← HK2.out]; exact lp_no0 hk11 HL.out (by omega) (by rw [HPE.out]; exact hv1)), rfl, hbel⟩
              case measure => simp [intOf]; omega
    · have hfin : lpTo p xs xs.length = v := by
        by_cases h0 : xs.length = 0
        · have hk0 : k = 1 := by omega
          have := HL.out
          rw [hk0] at this
          rw [h0]; exact this
        · have hk0 : k = xs.length := by omega
          have h := HL.out
          have e : xs.length = (xs.length - 1) + 1 := by omega
          rw [e]
          rw [hk0] at h
          exact lp_no3 (by omega) h
      have HF2 := Lib.hid hfin
      clear hfin
      by_cases hv0 : v < 0
      · have hd : decide (0 ≤ v) = false := by simp; omega
        go_wp2_with (go_at_call 47; refine (orNotFound_any _ _ _).mono ?_; rintro e w' ⟨rfl, rfl⟩)
        go_ret2
        exact ⟨by rw [lpRes_3 HV.out HF2.out hv0]; rfl, hbel⟩
      · have hd : decide (0 ≤ v) = true := by simp; omega
        go_wp2_with (go_at_call 47; refine (orNotFound_any _ _ _).mono ?_; rintro e w' ⟨rfl, rfl⟩)
        go_ret2
        exact ⟨by rw [lpRes_0 HV.out HF2.out (by omega)]; rfl, hbel⟩
def restAt (xs : List SWatch) (i : Nat) : Int := if h : i + 1 < xs.length then (if samP xs[i] xs[i + 1] then pauseOf xs[i] xs[i + 1] else -1) else -1
theorem rest_yes {xs : List SWatch} {i : Nat} (h : i + 1 < xs.length) (h2 : samP xs[i] xs[i + 1] = true) : restAt xs i = pauseOf xs[i] xs[i + 1] := by rw [restAt, dif_pos h, if_pos h2]
theorem rest_no {xs : List SWatch} {i : Nat} (h : i + 1 < xs.length) (h2 : samP xs[i] xs[i + 1] = false) : restAt xs i = -1 := by rw [restAt, dif_pos h, if_neg (by rw [h2]; simp)]
theorem rest_end {xs : List SWatch} {i : Nat} (h : ¬ i + 1 < xs.length) : restAt xs i = -1 := by rw [restAt, dif_neg h]
theorem l26Rest_any (xs : List SWatch) (b c i : Nat) (w : World) (A : Arr SWatch.cells 4 w b xs) (hn : xs.length ≤ 1048576) (hi : i < xs.length) (hv : vlWatch xs = true) :
    Calls Try.prog 45 #[.slice (some ⟨b, 0, none⟩) xs.length c, .int .i64 i] w fun e w' => e = .returned (.int .i64 (restAt xs i)) ∧ Below w.heap.size w w' := by
  have HA := Lib.hid A
  have hok := okWatch_bd (vlWatch_ok hv i hi)
  have HV := Lib.hid hv
  clear A hv
  by_cases hlt : i + 1 < xs.length
  · have hok2 := okWatch_bd (vlWatch_ok HV.out (i + 1) hlt)
    obtain ⟨e0, e1, e2, e3⟩ := SWatch.elem HA.out hi
    obtain ⟨f0, f1, f2, f3⟩ := SWatch.elem HA.out hlt
    have hz2 : IntKind.i64.wrap ((i : Int) + 1) = (i : Int) + 1 := IntWalk.i64_in _ (by omega)
    have hz1 : 0 ≤ (i : Int) + 1 := by omega
    have hz3 : ((i : Int) + 1).toNat = i + 1 := by omega
    have hz4 : decide ((xs.length : Int) ≤ (i : Int) + 1) = false := by simp; omega
    cases hs : (xs[i].Person.toList == (xs[i + 1]).Person.toList)
    · have hr := rest_no hlt hs
      have HR := Lib.hid hr
      clear hr
      go_enter Try.func45, Try.ntmps45
      go_wp2_with fail
      go_quiet (fail)
      go_wp2_with fail
      go_ret
      exact ⟨ret_int (by rw [HR.out]), (by repeat (first | (with_reducible assumption) | (with_reducible exact Below.refl _ _) | (with_reducible refine Bel.alloc ?_ _) | (with_reducible refine Below.drew ?_) | (with_reducible refine Bel.drewN ?_ _) | (with_reducible refine Bel.setCell ?_ (by (try simp) <;> omega) _) | (with_reducible refine Bel.trans ?_ (by assumption))))⟩
    · have hr := rest_yes hlt hs
      have HR := Lib.hid hr
      clear hr
      go_enter Try.func45, Try.ntmps45
      go_wp2_with fail
      go_quiet (fail)
      go_wp2_with fail
      go_quiet (fail)
      go_wp2_with fail
      go_ret
      exact ⟨ret_int (by rw [HR.out, pauseOf]), (by repeat (first | (with_reducible assumption) | (with_reducible exact Below.refl _ _) | (with_reducible refine Bel.alloc ?_ _) | (with_reducible refine Below.drew ?_) | (with_reducible refine Bel.drewN ?_ _) | (with_reducible refine Bel.setCell ?_ (by (try simp) <;> omega) _) | (with_reducible refine Bel.trans ?_ (by assumption))))⟩
  · have hr := rest_end hlt
    have HR := Lib.hid hr
    have hz4 : decide ((xs.length : Int) ≤ (i : Int) + 1) = true := by simp; omega
    clear hr
    go_enter Try.func45, Try.ntmps45
    go_wp2_with fail
    go_quiet (fail)
    go_wp2_with fail
    go_ret
    exact ⟨ret_int (by rw [HR.out]), (by repeat (first | (with_reducible assumption) | (with_reducible exact Below.refl _ _) | (with_reducible refine Bel.alloc ?_ _) | (with_reducible refine Below.drew ?_) | (with_reducible refine Bel.drewN ?_ _) | (with_reducible refine Bel.setCell ?_ (by (try simp) <;> omega) _) | (with_reducible refine Bel.trans ?_ (by assumption))))⟩
theorem lp_rest {p : ByteArray} {xs : List SWatch} {k : Nat} {v : Int} (hv : vlWatch xs = true) (hk : k < xs.length) (hl : lpTo p xs k = v) (ha : isP p xs[k] = true) (hr : restAt xs k < 0) : lpTo p xs (k + 1) = v := by
  by_cases h : k + 1 < xs.length
  · cases hs : samP xs[k] xs[k + 1]
    · refine lp_no2 h hl ?_
      cases hb : isP p xs[k + 1]
      · rfl
      · rw [isP, beq_iff_eq] at ha hb
        rw [samP, ha, hb] at hs
        simp at hs
    · have h1 := lw_acc_eq (a := xs[k]) (b := xs[k + 1]) (vlWatch_lt hv (k + 1) h (by omega)) hs
      rw [rest_yes h hs, pauseOf] at hr
      omega
  · exact lp_no3 h hl
theorem lp_rest2 {p : ByteArray} {xs : List SWatch} {k : Nat} (ha : ∀ hk : k < xs.length, isP p xs[k] = true) (hr : 0 ≤ restAt xs k) : ∃ h : k + 1 < xs.length, restAt xs k = pauseOf (xs[k]'(by omega)) xs[k + 1] ∧ isP p xs[k + 1] = true := by
  by_cases h : k + 1 < xs.length
  · cases hs : samP xs[k] xs[k + 1]
    · rw [rest_no h hs] at hr; omega
    · have := ha (by omega)
      rw [samP, beq_iff_eq] at hs
      rw [isP, hs] at this
      exact ⟨h, rest_yes h (by rw [samP, beq_iff_eq]; exact hs), this⟩
  · rw [rest_end h] at hr; omega
theorem sLeastPause_any (xs : List SWatch) (b c : Nat) (p : ByteArray) (w : World) (A : Arr SWatch.cells 4 w b xs) (hn : xs.length ≤ 1048576) (hf : ∀ i (h : i < xs.length), xs[i].Person.size ≤ 9223372036854775807) :
    Calls Try.prog 15 #[.slice (some ⟨b, 0, none⟩) xs.length c, .string p] w fun e w' => e = .returned (.tuple #[.int .i64 (lpRes xs p).1, .int .i64 (lpRes xs p).2]) ∧ Below w.heap.size w w' := by
  have HA := Lib.hid A
  have HF := Lib.hid hf
  clear A hf
  go_enter Try.func15, Try.ntmps15
  go_wp2_with (go_at_call 38; refine (l26Ok_any xs b c _ HA.out hn HF.out).mono ?_; rintro e w1 ⟨rfl, hb1⟩)
  · go_ret2
    exact ⟨ret_int2 (by (try simp only [Bool.not_eq_true', Bool.not_eq_false', Bool.not_eq_true] at *); simp [lpRes, *]) (by (try simp only [Bool.not_eq_true', Bool.not_eq_false', Bool.not_eq_true] at *); simp [lpRes, *]), (by repeat (first | (with_reducible assumption) | (with_reducible exact Below.refl _ _) | (with_reducible refine Bel.alloc ?_ _) | (with_reducible refine Below.drew ?_) | (with_reducible refine Bel.drewN ?_ _) | (with_reducible refine Bel.setCell ?_ (by (try simp) <;> omega) _) | (with_reducible refine Bel.trans ?_ (by assumption))))⟩
  have hv : vlWatch xs = true := (by first | assumption | exact not_f (by assumption) | exact not_t (by assumption))
  have hlen := vlWatch_len hv
  simp only [hv, Bool.not_true]
  have HV := Lib.hid hv
  clear hv
  go_loopw [6, 7] (fun s i wr => ∃ k : Nat, k ≤ xs.length ∧ i = .int .i64 k ∧ ∃ v, lpTo p xs k = v ∧ s = .int .i64 v ∧ Below w.heap.size w wr) (fun _ i wr => xs.length - (intOf i).toNat)
  case atStart => exact ⟨0, by omega, rfl, _, rfl, rfl, hb1⟩
  case round =>
    obtain ⟨k, hk, rfl, v, hlp, rfl, hbel⟩ := hrel
    have HL := Lib.hid hlp
    clear hlp
    by_cases hlt : k < xs.length
    · obtain ⟨r, hr⟩ : ∃ r, restAt xs k = r := ⟨_, rfl⟩
      have HR := Lib.hid hr
      clear hr
      go_wp2_with fail
      refine (Calls.intIs HR.out (l26Rest_any xs b c k _ (HA.out.below hbel) hn hlt HV.out)).mono ?_
      rintro e w2 ⟨rfl, hb2⟩
      have hbel := Bel.trans hbel hb2
      obtain ⟨e0, e1, e2, e3⟩ := SWatch.elem (HA.out.below hbel) hlt
      cases ha : (xs[k].Person.toList == p.toList)
      · go_wp2
        go_roundw
        case rel => exact ⟨k + 1, by omega, by go_num, _, lp_no1 hlt HL.out ha, rfl, hbel⟩
        case measure => simp [intOf]; omega
      · by_cases hr0 : 0 ≤ r
        · obtain ⟨h1, h2, h3⟩ := lp_rest2 (p := p) (xs := xs) (k := k) (fun _ => ha) (by rw [HR.out]; exact hr0)
          rw [HR.out] at h2
          have H2 := Lib.hid h2
          have H3 := Lib.hid h3
          clear h2 h3
          by_cases hv0 : v < 0
          · go_wp2
            go_roundw
            case rel => exact ⟨k + 1, by omega, by go_num, _, (by rw [H2.out]; exact lp_yes h1 ha H3.out HL.out (Or.inl hv0)), rfl, hbel⟩
            case measure => simp [intOf]; omega
          · by_cases hv1 : r < v
            · go_wp2
              go_roundw
              case rel => exact ⟨k + 1, by omega, by go_num, _, (by rw [H2.out]; exact lp_yes h1 ha H3.out HL.out (Or.inr (by rw [← H2.out]; exact hv1))), rfl, hbel⟩
              case measure => simp [intOf]; omega
            · go_wp2
              go_roundw
              case rel => exact ⟨k + 1, by omega, by go_num, _, lp_no0 h1 HL.out (by omega) (by rw [← H2.out]; omega), rfl, hbel⟩
              case measure => simp [intOf]; omega
        · go_wp2
          go_roundw
          case rel => exact ⟨k + 1, by omega, by go_num, _, lp_rest HV.out hlt HL.out ha (by rw [HR.out]; omega), rfl, hbel⟩
          case measure => simp [intOf]; omega
    · obtain rfl : k = xs.length := by omega
      by_cases hv0 : v < 0
      · go_wp2
        go_ret2
        exact ⟨by rw [lpRes_3 HV.out HL.out hv0]; rfl, hbel⟩
      · go_wp2
        go_ret2
        exact ⟨by rw [lpRes_0 HV.out HL.out (by omega)]; rfl, hbel⟩
end Go.Proofs.Ytbmekipbbkaocaa
