/- Chapter 28: the share of the buried; the most dangerous level; the worst incident. -/
import Derived.Test.YtabhojeikhfcfaaL28b
namespace Go.Proofs.Ytabhojeikhfcfaa
open Go.RowKit
set_option maxHeartbeats 400000
set_option maxRecDepth 100000
theorem sValidIncidents_any (xs : List SIncident) (b c : Nat) (w : World) (A : Arr SIncident.cells 6 w b xs) (hn : xs.length ≤ 1048576) (hf : ∀ i (h : i < xs.length), xs[i].Place.size ≤ 9223372036854775807 ∧ xs[i].Cause.size ≤ 9223372036854775807) :
    Calls Try.prog 23 #[.slice (some ⟨b, 0, none⟩) xs.length c] w fun e w' => e = .returned (.bool (vlIncident xs)) ∧ Below w.heap.size w w' := by
  have HA := Lib.hid A
  have HF := Lib.hid hf
  clear A hf
  go_enter Try.func23, Try.ntmps23
  go_wp2_with (go_at_call 30; refine (l28Ok_any xs b c _ HA.out hn HF.out).mono ?_; rintro e w1 ⟨rfl, hb1⟩)
  go_ret
  exact ⟨rfl, hb1⟩
def fBur (cause : ByteArray) (x : SIncident) : Int := if x.Cause.toList == cause.toList then x.Buried else 0
def fCau (cause : ByteArray) (x : SIncident) : Int := if x.Cause.toList == cause.toList then x.Caught else 0
theorem fBur_bd {cause : ByteArray} {xs : List SIncident} (h : vlIncident xs = true) (k : Nat) : 0 ≤ sumL (fBur cause) xs k ∧ sumL (fBur cause) xs k ≤ 20 * k :=
  sumL_bd (by omega) (fun i hi => by have := okIncident_bd (vlIncident_ok h i hi); unfold fBur; split <;> omega) k
theorem fCau_bd {cause : ByteArray} {xs : List SIncident} (h : vlIncident xs = true) (k : Nat) : 0 ≤ sumL (fCau cause) xs k ∧ sumL (fCau cause) xs k ≤ 20 * k :=
  sumL_bd (by omega) (fun i hi => by have := okIncident_bd (vlIncident_ok h i hi); unfold fCau; split <;> omega) k
theorem fBur_yes {cause : ByteArray} {xs : List SIncident} {k : Nat} (hk : k < xs.length) (h : (xs[k].Cause.toList == cause.toList) = true) : sumL (fBur cause) xs (k + 1) = sumL (fBur cause) xs k + xs[k].Buried := by rw [sumL_at hk, fBur, if_pos h]
theorem fBur_no {cause : ByteArray} {xs : List SIncident} {k : Nat} (hk : k < xs.length) (h : (xs[k].Cause.toList == cause.toList) = false) : sumL (fBur cause) xs (k + 1) = sumL (fBur cause) xs k := by rw [sumL_at hk, fBur, if_neg (by rw [h]; simp)]; omega
theorem fCau_yes {cause : ByteArray} {xs : List SIncident} {k : Nat} (hk : k < xs.length) (h : (xs[k].Cause.toList == cause.toList) = true) : sumL (fCau cause) xs (k + 1) = sumL (fCau cause) xs k + xs[k].Caught := by rw [sumL_at hk, fCau, if_pos h]
theorem fCau_no {cause : ByteArray} {xs : List SIncident} {k : Nat} (hk : k < xs.length) (h : (xs[k].Cause.toList == cause.toList) = false) : sumL (fCau cause) xs (k + 1) = sumL (fCau cause) xs k := by rw [sumL_at hk, fCau, if_neg (by rw [h]; simp)]; omega
def burRes (xs : List SIncident) (cause : ByteArray) : Int × Int := if vlIncident xs then (if sumL (fCau cause) xs xs.length == 0 then (0, 3) else (rdiv (1000 * sumL (fBur cause) xs xs.length) (sumL (fCau cause) xs xs.length), 0)) else (0, 1)
-- 1 fn 2 name 3 valid fn 4 valid thm 5 slots 6 names 7 round 8 div
theorem BuriedShare_any (xs : List SIncident) (b c : Nat) (cause : ByteArray) (w : World) (A : Arr SIncident.cells 6 w b xs) (hn : xs.length ≤ 1048576) (hf : ∀ i (h : i < xs.length), xs[i].Place.size ≤ 9223372036854775807 ∧ xs[i].Cause.size ≤ 9223372036854775807) :
    Calls Try.prog 13 #[.slice (some ⟨b, 0, none⟩) xs.length c, .string cause] w fun e w' => e = .returned (.tuple #[.int .i64 (burRes xs cause).1, .int .i64 (burRes xs cause).2]) ∧ Below w.heap.size w w' := by
  have HA := Lib.hid A
  have HF := Lib.hid hf
  clear A hf
  go_enter Try.func13, Try.ntmps13
  go_wp2_with (go_at_call 24; refine (ValidIncidents_any xs b c _ HA.out hn HF.out).mono ?_; rintro e w1 ⟨rfl, hb1⟩)
  · go_ret2
    exact ⟨ret_int2 (by (try simp only [Bool.not_eq_true', Bool.not_eq_false', Bool.not_eq_true] at *); simp [burRes, *]) (by (try simp only [Bool.not_eq_true', Bool.not_eq_false', Bool.not_eq_true] at *); simp [burRes, *]), (by repeat (first | (with_reducible assumption) | (with_reducible exact Below.refl _ _) | (with_reducible refine Bel.alloc ?_ _) | (with_reducible refine Below.drew ?_) | (with_reducible refine Bel.drewN ?_ _) | (with_reducible refine Bel.setCell ?_ (by (try simp) <;> omega) _) | (with_reducible refine Bel.trans ?_ (by assumption))))⟩
  have hv : vlIncident xs = true := (by first | assumption | exact not_f (by assumption) | exact not_t (by assumption))
  have hlen := vlIncident_len hv
  have HV := Lib.hid hv
  clear hv
  go_loopw [6, 7, 15] (fun bu ca i wr => ∃ k : Nat, k ≤ xs.length ∧ i = .int .i64 k ∧ bu = .int .i64 (sumL (fBur cause) xs k) ∧ ca = .int .i64 (sumL (fCau cause) xs k) ∧ Below w.heap.size w wr) (fun _ _ i wr => xs.length - (intOf i).toNat)
  case atStart => exact ⟨0, by omega, rfl, rfl, rfl, hb1⟩
  case round =>
    obtain ⟨k, hk, rfl, rfl, rfl, hbel⟩ := hrel
    have hB := fBur_bd (cause := cause) HV.out k
    have hC := fCau_bd (cause := cause) HV.out k
    by_cases hlt : k < xs.length
    · obtain ⟨e0, e1, e2, e3, e4, e5⟩ := SIncident.elem (HA.out.below hbel) hlt
      have hbd := okIncident_bd (HV.out |> fun h => vlIncident_ok h k hlt)
      cases hq : (xs[k].Cause.toList == cause.toList)
      · go_wp2
        go_roundw
        case rel => exact ⟨k + 1, by omega, by go_num, by rw [fBur_no hlt hq], by rw [fCau_no hlt hq], (by repeat (first | (with_reducible assumption) | (with_reducible exact Below.refl _ _) | (with_reducible refine Bel.alloc ?_ _) | (with_reducible refine Below.drew ?_) | (with_reducible refine Bel.drewN ?_ _) | (with_reducible refine Bel.setCell ?_ (by (try simp) <;> omega) _) | (with_reducible refine Bel.trans ?_ (by assumption))))⟩
        case measure => simp [intOf]; omega
      · skip
        go_wp2_with fail
        refine wp_box_out ?_
        intro W hbw B
        have p0 := Past.box B (j := 0) (v := .int .i64 xs[k].Day) rfl
        have p1 := Past.box B (j := 1) (v := .string xs[k].Place) rfl
        have p2 := Past.box B (j := 2) (v := .string xs[k].Cause) rfl
        have p3 := Past.box B (j := 3) (v := .int .i64 xs[k].Level) rfl
        have p4 := Past.box B (j := 4) (v := .int .i64 xs[k].Caught) rfl
        have p5 := Past.box B (j := 5) (v := .int .i64 xs[k].Buried) rfl
        have c0 : W.cell? ⟨wr.heap.size, 0, none⟩ = some (.int .i64 xs[k].Day) := B.cell 0
        have c1 : W.cell? ⟨wr.heap.size, 1, none⟩ = some (.string xs[k].Place) := B.cell 1
        have c2 : W.cell? ⟨wr.heap.size, 2, none⟩ = some (.string xs[k].Cause) := B.cell 2
        have c3 : W.cell? ⟨wr.heap.size, 3, none⟩ = some (.int .i64 xs[k].Level) := B.cell 3
        have c4 : W.cell? ⟨wr.heap.size, 4, none⟩ = some (.int .i64 xs[k].Caught) := B.cell 4
        have c5 : W.cell? ⟨wr.heap.size, 5, none⟩ = some (.int .i64 xs[k].Buried) := B.cell 5
        have hbel := Bel.trans hbel hbw
        clear B hbw e0 e1 e2 e3 e4 e5
        go_wp2_with fail
        refine wp_region_past (by kernel_rfl) (by kernel_rfl) ?_
        repeat (go_big_quiet_step (fail))
        refine wpQuiet_nil ?_
        intro W1 hw'
        obtain ⟨⟨W_, hbx⟩, hw''⟩ := hw'
        subst hw''
        have hbel := Bel.trans hbel hbx
        go_wp2
        go_roundw
        case rel => exact ⟨k + 1, by omega, by go_num, by rw [fBur_yes hlt hq], by rw [fCau_yes hlt hq], (by repeat (first | (with_reducible assumption) | (with_reducible exact Below.refl _ _) | (with_reducible refine Bel.alloc ?_ _) | (with_reducible refine Below.drew ?_) | (with_reducible refine Bel.drewN ?_ _) | (with_reducible refine Bel.setCell ?_ (by (try simp) <;> omega) _) | (with_reducible refine Bel.trans ?_ (by assumption))))⟩
        case measure => simp [intOf]; omega
    · obtain rfl : k = xs.length := by omega
      cases hz : (sumL (fCau cause) xs xs.length == 0)
      · have hz1 := beq_eq_false_iff_ne.mp hz
        have hz2 : 0 < sumL (fCau cause) xs xs.length := by omega
        have HZ := Lib.hid hz
        clear hz1
        go_wp2_with fail
        refine (divRound_any _ _ _ (by omega) (by omega) (by omega) (by omega)).mono ?_; rintro e w' ⟨rfl, n, rfl⟩
        go_wp2
        go_ret2
        exact ⟨ret_int2 (by simp only [burRes, HV.out, HZ.out, if_true]; rfl) (by simp only [burRes, HV.out, HZ.out, if_true]; rfl), (by repeat (first | (with_reducible assumption) | (with_reducible exact Below.refl _ _) | (with_reducible refine Bel.alloc ?_ _) | (with_reducible refine Below.drew ?_) | (with_reducible refine Bel.drewN ?_ _) | (with_reducible refine Bel.setCell ?_ (by (try simp) <;> omega) _) | (with_reducible refine Bel.trans ?_ (by assumption))))⟩
      · have HZ := Lib.hid hz
        go_wp2
        go_ret2
        exact ⟨ret_int2 (by simp only [burRes, HV.out, HZ.out, if_true]) (by simp only [burRes, HV.out, HZ.out, if_true]), (by repeat (first | (with_reducible assumption) | (with_reducible exact Below.refl _ _) | (with_reducible refine Bel.alloc ?_ _) | (with_reducible refine Below.drew ?_) | (with_reducible refine Bel.drewN ?_ _) | (with_reducible refine Bel.setCell ?_ (by (try simp) <;> omega) _) | (with_reducible refine Bel.trans ?_ (by assumption))))⟩
-- 1 fn 2 name 3 valid fn 4 valid thm 5 slots 6 names 7 round 8 div
theorem sBuriedShare_any (xs : List SIncident) (b c : Nat) (cause : ByteArray) (w : World) (A : Arr SIncident.cells 6 w b xs) (hn : xs.length ≤ 1048576) (hf : ∀ i (h : i < xs.length), xs[i].Place.size ≤ 9223372036854775807 ∧ xs[i].Cause.size ≤ 9223372036854775807) :
    Calls Try.prog 11 #[.slice (some ⟨b, 0, none⟩) xs.length c, .string cause] w fun e w' => e = .returned (.tuple #[.int .i64 (burRes xs cause).1, .int .i64 (burRes xs cause).2]) ∧ Below w.heap.size w w' := by
  have HA := Lib.hid A
  have HF := Lib.hid hf
  clear A hf
  go_enter Try.func11, Try.ntmps11
  go_wp2_with (go_at_call 30; refine (l28Ok_any xs b c _ HA.out hn HF.out).mono ?_; rintro e w1 ⟨rfl, hb1⟩)
  · go_ret2
    exact ⟨ret_int2 (by (try simp only [Bool.not_eq_true', Bool.not_eq_false', Bool.not_eq_true] at *); simp [burRes, *]) (by (try simp only [Bool.not_eq_true', Bool.not_eq_false', Bool.not_eq_true] at *); simp [burRes, *]), (by repeat (first | (with_reducible assumption) | (with_reducible exact Below.refl _ _) | (with_reducible refine Bel.alloc ?_ _) | (with_reducible refine Below.drew ?_) | (with_reducible refine Bel.drewN ?_ _) | (with_reducible refine Bel.setCell ?_ (by (try simp) <;> omega) _) | (with_reducible refine Bel.trans ?_ (by assumption))))⟩
  have hv : vlIncident xs = true := (by first | assumption | exact not_f (by assumption) | exact not_t (by assumption))
  have hlen := vlIncident_len hv
  have HV := Lib.hid hv
  clear hv
  go_loopw [6, 7, 8] (fun ca bu i wr => ∃ k : Nat, k ≤ xs.length ∧ i = .int .i64 k ∧ bu = .int .i64 (sumL (fBur cause) xs k) ∧ ca = .int .i64 (sumL (fCau cause) xs k) ∧ Below w.heap.size w wr) (fun _ _ i wr => xs.length - (intOf i).toNat)
  case atStart => exact ⟨0, by omega, rfl, rfl, rfl, hb1⟩
  case round =>
    obtain ⟨k, hk, rfl, rfl, rfl, hbel⟩ := hrel
    have hB := fBur_bd (cause := cause) HV.out k
    have hC := fCau_bd (cause := cause) HV.out k
    by_cases hlt : k < xs.length
    · obtain ⟨e0, e1, e2, e3, e4, e5⟩ := SIncident.elem (HA.out.below hbel) hlt
      have hbd := okIncident_bd (HV.out |> fun h => vlIncident_ok h k hlt)
      cases hq : (xs[k].Cause.toList == cause.toList)
      · go_wp2
        go_roundw
        case rel => exact ⟨k + 1, by omega, by go_num, by rw [fBur_no hlt hq], by rw [fCau_no hlt hq], (by repeat (first | (with_reducible assumption) | (with_reducible exact Below.refl _ _) | (with_reducible refine Bel.alloc ?_ _) | (with_reducible refine Below.drew ?_) | (with_reducible refine Bel.drewN ?_ _) | (with_reducible refine Bel.setCell ?_ (by (try simp) <;> omega) _) | (with_reducible refine Bel.trans ?_ (by assumption))))⟩
        case measure => simp [intOf]; omega
      · skip
        go_wp2
        go_roundw
        case rel => exact ⟨k + 1, by omega, by go_num, by rw [fBur_yes hlt hq], by rw [fCau_yes hlt hq], (by repeat (first | (with_reducible assumption) | (with_reducible exact Below.refl _ _) | (with_reducible refine Bel.alloc ?_ _) | (with_reducible refine Below.drew ?_) | (with_reducible refine Bel.drewN ?_ _) | (with_reducible refine Bel.setCell ?_ (by (try simp) <;> omega) _) | (with_reducible refine Bel.trans ?_ (by assumption))))⟩
        case measure => simp [intOf]; omega
    · obtain rfl : k = xs.length := by omega
      cases hz : (sumL (fCau cause) xs xs.length == 0)
      · have hz1 := beq_eq_false_iff_ne.mp hz
        have hz2 : 0 < sumL (fCau cause) xs xs.length := by omega
        have HZ := Lib.hid hz
        clear hz1
        go_wp2_with fail
        refine (l01Div_any _ _ _ (by omega) (by omega) (by omega) (by omega)).mono ?_; rintro e w' ⟨rfl, rfl⟩
        go_wp2
        go_ret2
        exact ⟨ret_int2 (by simp only [burRes, HV.out, HZ.out, if_true]; rfl) (by simp only [burRes, HV.out, HZ.out, if_true]; rfl), (by repeat (first | (with_reducible assumption) | (with_reducible exact Below.refl _ _) | (with_reducible refine Bel.alloc ?_ _) | (with_reducible refine Below.drew ?_) | (with_reducible refine Bel.drewN ?_ _) | (with_reducible refine Bel.setCell ?_ (by (try simp) <;> omega) _) | (with_reducible refine Bel.trans ?_ (by assumption))))⟩
      · have HZ := Lib.hid hz
        go_wp2
        go_ret2
        exact ⟨ret_int2 (by simp only [burRes, HV.out, HZ.out, if_true]) (by simp only [burRes, HV.out, HZ.out, if_true]), (by repeat (first | (with_reducible assumption) | (with_reducible exact Below.refl _ _) | (with_reducible refine Bel.alloc ?_ _) | (with_reducible refine Below.drew ?_) | (with_reducible refine Bel.drewN ?_ _) | (with_reducible refine Bel.setCell ?_ (by (try simp) <;> omega) _) | (with_reducible refine Bel.trans ?_ (by assumption))))⟩
def dAt (ds : List Int) (l : Nat) : Int := ds.getD (l - 1) 0
theorem dAt_eq {ds : List Int} {l : Nat} (h : l - 1 < ds.length) : dAt ds l = ds[l - 1] := by simp [dAt, h]
def mdB (xs : List SIncident) (ds : List Int) : Nat → Nat
  | 0 => 1
  | j + 1 => if j < 2 then 1 else if rate xs (mdB xs ds j : Int) (dAt ds (mdB xs ds j)) < rate xs (j : Int) (dAt ds j) then j else mdB xs ds j
theorem mdB_2 (xs : List SIncident) (ds : List Int) : mdB xs ds 2 = 1 := by rw [mdB, if_pos (by omega)]
theorem mdB_yes {xs : List SIncident} {ds : List Int} {j m : Nat} {r q : Int} (hj : 2 ≤ j) (hm : mdB xs ds j = m) (h1 : j - 1 < ds.length) (h2 : m - 1 < ds.length) (hr : rate xs (j : Int) ds[j - 1] = r) (hq : rate xs (m : Int) ds[m - 1] = q) (h : q < r) : mdB xs ds (j + 1) = j := by
  rw [mdB, if_neg (by omega), hm, dAt_eq h1, dAt_eq h2, hr, hq, if_pos h]
theorem mdB_no {xs : List SIncident} {ds : List Int} {j m : Nat} {r q : Int} (hj : 2 ≤ j) (hm : mdB xs ds j = m) (h1 : j - 1 < ds.length) (h2 : m - 1 < ds.length) (hr : rate xs (j : Int) ds[j - 1] = r) (hq : rate xs (m : Int) ds[m - 1] = q) (h : ¬ q < r) : mdB xs ds (j + 1) = m := by
  rw [mdB, if_neg (by omega), hm, dAt_eq h1, dAt_eq h2, hr, hq, if_neg h]
def mdRes (xs : List SIncident) (ds : List Int) : Int × Int × Int :=
  if vlIncident xs then (if decide (ds.length = 5) && allIn 1 1000 ds then ((mdB xs ds 6 : Int), rate xs (mdB xs ds 6 : Int) (dAt ds (mdB xs ds 6)), 0) else (0, 0, 7)) else (0, 0, 1)
theorem mdRes_1 {xs : List SIncident} {ds : List Int} (h : vlIncident xs = false) : mdRes xs ds = (0, 0, 1) := by simp [mdRes, h]
theorem mdRes_7 {xs : List SIncident} {ds : List Int} (h : vlIncident xs = true) (h2 : (decide (ds.length = 5) && allIn 1 1000 ds) = false) : mdRes xs ds = (0, 0, 7) := by rw [mdRes, if_pos h, if_neg (by rw [h2]; simp)]
theorem mdRes_0 {xs : List SIncident} {ds : List Int} {m : Nat} {r : Int} (h : vlIncident xs = true) (h5 : ds.length = 5) (h2 : allIn 1 1000 ds = true) (hm : mdB xs ds 6 = m) (h1 : m - 1 < ds.length) (hr : rate xs (m : Int) ds[m - 1] = r) : mdRes xs ds = ((m : Int), r, 0) := by
  rw [mdRes, if_pos h, h2, decide_eq_true h5, if_pos (show (true && true) = true from rfl), hm, dAt_eq h1, hr]
theorem allIn_at {lo hi : Int} {ds : List Int} (h : allIn lo hi ds = true) : ∀ k (hk : k < ds.length), inr lo hi ds[k] = true := fun k hk => by
  rw [allIn, List.all_eq_true] at h; exact h _ (List.getElem_mem hk)
theorem allIn_no {lo hi : Int} {ds : List Int} {k : Nat} (hk : k < ds.length) (h : inr lo hi ds[k] = false) : allIn lo hi ds = false := by
  rw [allIn, List.all_eq_false]; exact ⟨_, List.getElem_mem hk, by rw [h]; simp⟩
theorem allIn_yes {lo hi : Int} {ds : List Int} (h : ∀ k (hk : k < ds.length), inr lo hi ds[k] = true) : allIn lo hi ds = true := by
  rw [allIn, List.all_eq_true]; intro x hx; obtain ⟨k, hk, rfl⟩ := List.getElem_of_mem hx; exact h k hk
theorem MostDangerous_any (xs : List SIncident) (ds : List Int) (b c b2 c2 : Nat) (w : World) (A : Arr SIncident.cells 6 w b xs) (D : Arr intc 1 w b2 ds) (hn : xs.length ≤ 1048576) (hn2 : ds.length ≤ 1048576) (hf : ∀ i (h : i < xs.length), xs[i].Place.size ≤ 9223372036854775807 ∧ xs[i].Cause.size ≤ 9223372036854775807) :
    Calls Try.prog 19 #[.slice (some ⟨b, 0, none⟩) xs.length c, .slice (some ⟨b2, 0, none⟩) ds.length c2] w fun e w' => e = .returned (.tuple #[.int .i64 (mdRes xs ds).1, .int .i64 (mdRes xs ds).2.1, .int .i64 (mdRes xs ds).2.2]) ∧ Below w.heap.size w w' := by
  have HA := Lib.hid A
  have HD := Lib.hid D
  have HF := Lib.hid hf
  clear A D hf
  cases hv : vlIncident xs
  · rw [mdRes_1 hv]
    have HV := Lib.hid hv
    clear hv
    go_enter Try.func19, Try.ntmps19
    go_wp2_with (go_at_call 24; refine (Calls.boolIs HV.out (ValidIncidents_any xs b c _ HA.out hn HF.out)).mono ?_; rintro e w1 ⟨rfl, hb1⟩)
    go_ret3
    exact ⟨rfl, hb1⟩
  have hlen := vlIncident_len hv
  have HV := Lib.hid hv
  clear hv
  by_cases h5 : ds.length = 5
  · cases ha : allIn 1 1000 ds
    · rw [mdRes_7 HV.out (by rw [ha, Bool.and_false])]
      have HN := Lib.hid ha
      have h5' : ((ds.length : Int) != 5) = false := by simp; omega
      clear ha h5
      go_enter Try.func19, Try.ntmps19
      go_wp2_with (first | (go_at_call 24; refine (Calls.boolIs HV.out (ValidIncidents_any xs b c _ HA.out hn HF.out)).mono ?_; rintro e w1 ⟨rfl, hb1⟩) | (go_at_call 41; refine (Calls.boolIs HN.out (allWithin_any ds b2 c2 1 1000 _ (HD.out.below hb1) hn2)).mono ?_; rintro e w2 ⟨rfl, hb2⟩))
      go_ret3
      exact ⟨rfl, (by repeat (first | (with_reducible assumption) | (with_reducible exact Below.refl _ _) | (with_reducible refine Bel.alloc ?_ _) | (with_reducible refine Below.drew ?_) | (with_reducible refine Bel.drewN ?_ _) | (with_reducible refine Bel.setCell ?_ (by (try simp) <;> omega) _) | (with_reducible refine Bel.trans ?_ (by assumption))))⟩
    · have HN := Lib.hid ha
      have hin := allIn_at ha
      have HI := Lib.hid hin
      have H5 := Lib.hid h5
      have h5' : ((ds.length : Int) != 5) = false := by simp; omega
      have h50 : 0 < ds.length := by omega
      have h51 : ds.length ≤ 5 := by omega
      have h52 : 5 ≤ ds.length := by omega
      generalize hR : mdRes xs ds = R
      have HR := Lib.hid hR
      clear ha hin h5 hR
      have d0 := HD.out.get h50 0 0 rfl (by omega)
      have q1 := HD.out.1
      go_enter Try.func19, Try.ntmps19
      go_wp2_with (first | (go_at_call 24; refine (Calls.boolIs HV.out (ValidIncidents_any xs b c _ HA.out hn HF.out)).mono ?_; rintro e w1 ⟨rfl, hb1⟩) | (go_at_call 41; refine (Calls.boolIs HN.out (allWithin_any ds b2 c2 1 1000 _ (HD.out.below hb1) hn2)).mono ?_; rintro e w2 ⟨rfl, hb2⟩; have hbt := Bel.trans hb1 hb2; have d0 := (HD.out.below hbt).get h50 0 0 rfl (by omega)) | (go_at_call 42; refine (rateOf_any xs b c 1 ds[0] _ (HA.out.below hbt) (by omega) (HI.out 0 h50)).mono ?_; rintro e w3 ⟨rfl, hb3⟩))
      have hbt := Bel.trans hbt hb3
      clear hb1 hb2 hb3 d0
      go_loopw [7, 8, 9] (fun be mo lv wr => ∃ (j m : Nat) (q : Int) (hm : m - 1 < ds.length), 2 ≤ j ∧ j ≤ 6 ∧ 1 ≤ m ∧ m < j ∧ mdB xs ds j = m ∧ rate xs (m : Int) ds[m - 1] = q ∧ lv = .int .i64 j ∧ be = .int .i64 m ∧ mo = .int .i64 q ∧ Below w.heap.size w wr) (fun _ _ lv wr => 7 - (intOf lv).toNat)
      case atStart => exact ⟨2, 1, _, by omega, by omega, by omega, by omega, by omega, mdB_2 xs ds, rfl, rfl, rfl, rfl, hbt⟩
      case round =>
        obtain ⟨j, m, q, hm, hj2, hj6, hm1, hmj, hmd, hq, rfl, rfl, rfl, hbel⟩ := hrel
        have HM := Lib.hid hmd
        have HQ := Lib.hid hq
        clear hmd hq
        by_cases hlt : j ≤ 5
        · have hjd : j - 1 < ds.length := by omega
          have hz1 : (1 : Int) ≤ (j : Int) := by omega
          have hz2 : IntKind.i64.wrap ((j : Int) - 1) = (j : Int) - 1 := IntWalk.i64_in _ (by omega)
          have hz3 : ((j : Int) - 1).toNat = j - 1 := by omega
          have d0 := (HD.out.below hbel).get hjd 0 (j - 1) rfl (by omega)
          obtain ⟨r, hr⟩ : ∃ r, rate xs (j : Int) ds[j - 1] = r := ⟨_, rfl⟩
          have HRR := Lib.hid hr
          clear hr
          by_cases hqr : q < r
          · go_wp2_with (go_at_call 42; refine (Calls.intIs HRR.out (rateOf_any xs b c (j : Int) ds[j - 1] _ (HA.out.below hbel) (by omega) (HI.out (j - 1) hjd))).mono ?_; rintro e w3 ⟨rfl, hb3⟩)
            go_roundw
            case rel => exact ⟨j + 1, j, r, hjd, by omega, by omega, by omega, by omega, mdB_yes hj2 HM.out hjd hm HRR.out HQ.out hqr, HRR.out, by go_num, rfl, rfl, Bel.trans hbel hb3⟩
            case measure => simp [intOf]; omega
          · go_wp2_with (go_at_call 42; refine (Calls.intIs HRR.out (rateOf_any xs b c (j : Int) ds[j - 1] _ (HA.out.below hbel) (by omega) (HI.out (j - 1) hjd))).mono ?_; rintro e w3 ⟨rfl, hb3⟩)
            go_roundw
            case rel => exact ⟨j + 1, m, q, hm, by omega, by omega, by omega, by omega, mdB_no hj2 HM.out hjd hm HRR.out HQ.out (by omega), HQ.out, by go_num, rfl, rfl, Bel.trans hbel hb3⟩
            case measure => simp [intOf]; omega
        · obtain rfl : j = 6 := by omega
          go_wp2
          go_ret3
          exact ⟨by rw [← HR.out, mdRes_0 HV.out H5.out HN.out HM.out hm HQ.out]; rfl, hbel⟩
  · rw [mdRes_7 HV.out (by rw [decide_eq_false h5, Bool.false_and])]
    have h5' : ((ds.length : Int) != 5) = true := by simp; omega
    clear h5
    go_enter Try.func19, Try.ntmps19
    go_wp2_with (first | (go_at_call 24; refine (Calls.boolIs HV.out (ValidIncidents_any xs b c _ HA.out hn HF.out)).mono ?_; rintro e w1 ⟨rfl, hb1⟩))
    go_ret3
    exact ⟨rfl, hb1⟩
theorem sMostDangerous_any (xs : List SIncident) (ds : List Int) (b c b2 c2 : Nat) (w : World) (A : Arr SIncident.cells 6 w b xs) (D : Arr intc 1 w b2 ds) (hn : xs.length ≤ 1048576) (hn2 : ds.length ≤ 1048576) (hf : ∀ i (h : i < xs.length), xs[i].Place.size ≤ 9223372036854775807 ∧ xs[i].Cause.size ≤ 9223372036854775807) :
    Calls Try.prog 17 #[.slice (some ⟨b, 0, none⟩) xs.length c, .slice (some ⟨b2, 0, none⟩) ds.length c2] w fun e w' => e = .returned (.tuple #[.int .i64 (mdRes xs ds).1, .int .i64 (mdRes xs ds).2.1, .int .i64 (mdRes xs ds).2.2]) ∧ Below w.heap.size w w' := by
  have HA := Lib.hid A
  have HD := Lib.hid D
  have HF := Lib.hid hf
  clear A D hf
  cases hv : vlIncident xs
  · rw [mdRes_1 hv]
    have HV := Lib.hid hv
    clear hv
    go_enter Try.func17, Try.ntmps17
    go_wp2_with (go_at_call 30; refine (Calls.boolIs HV.out (l28Ok_any xs b c _ HA.out hn HF.out)).mono ?_; rintro e w1 ⟨rfl, hb1⟩)
    go_ret3
    exact ⟨rfl, hb1⟩
  have hlen := vlIncident_len hv
  have HV := Lib.hid hv
  clear hv
  by_cases h5 : ds.length = 5
  · have h5' : ((ds.length : Int) != 5) = false := by simp; omega
    have h51 : ds.length ≤ 5 := by omega
    have h52 : 5 ≤ ds.length := by omega
    have H5 := Lib.hid h5
    generalize hR : mdRes xs ds = R
    have HR := Lib.hid hR
    clear h5 hR
    go_enter Try.func17, Try.ntmps17
    go_wp2_with (first | (go_at_call 30; refine (Calls.boolIs HV.out (l28Ok_any xs b c _ HA.out hn HF.out)).mono ?_; rintro e w1 ⟨rfl, hb1⟩))
    go_loopw [7] (fun i wr => ∃ k : Nat, k ≤ ds.length ∧ i = .int .i64 k ∧ (∀ j (hj : j < ds.length), j < k → inr 1 1000 ds[j] = true) ∧ Below w.heap.size w wr) (fun i wr => ds.length - (intOf i).toNat)
    case atStart => exact ⟨0, by omega, rfl, fun _ _ h => absurd h (Nat.not_lt_zero _), hb1⟩
    case round =>
      obtain ⟨k, hk, rfl, hall, hbel⟩ := hrel
      have HL := Lib.hid hall
      clear hall
      by_cases hlt : k < ds.length
      · have d0 := (HD.out.below hbel).get hlt 0 k rfl (by omega)
        cases hq : inr 1 1000 ds[k]
        · have HQ := Lib.hid hq
          clear hq
          go_wp2_with (go_at_call 39; refine (Calls.boolIs HQ.out (l28Days_any _ _)).mono ?_; rintro e w' ⟨rfl, rfl⟩)
          go_ret3
          exact ⟨by rw [← HR.out, mdRes_7 HV.out (by rw [allIn_no hlt HQ.out, Bool.and_false])]; rfl, hbel⟩
        · have HQ := Lib.hid hq
          clear hq
          go_wp2_with (go_at_call 39; refine (Calls.boolIs HQ.out (l28Days_any _ _)).mono ?_; rintro e w' ⟨rfl, rfl⟩)
          go_roundw
          case rel => exact ⟨k + 1, by omega, by go_num, fun j hj hjk => (by by_cases e : j = k; (subst e; exact HQ.out); exact HL.out j hj (by omega)), hbel⟩
          case measure => simp [intOf]; omega
      · obtain rfl : k = ds.length := by omega
        have hin : ∀ j (hj : j < ds.length), inr 1 1000 ds[j] = true := fun j hj => HL.out j hj hj
        have ha := allIn_yes hin
        have HN := Lib.hid ha
        have HI := Lib.hid hin
        clear ha hin
        go_wp2_with fail
        go_loopw [8, 9] (fun be lv wr => ∃ (j m : Nat) (hm : m - 1 < ds.length), 2 ≤ j ∧ j ≤ 6 ∧ 1 ≤ m ∧ m < j ∧ mdB xs ds j = m ∧ lv = .int .i64 j ∧ be = .int .i64 m ∧ Below w.heap.size w wr) (fun _ lv wr => 7 - (intOf lv).toNat)
        case atStart => exact ⟨2, 1, by omega, by omega, by omega, by omega, by omega, mdB_2 xs ds, rfl, rfl, hbel⟩
        case round =>
          obtain ⟨j, m, hm, hj2, hj6, hm1, hmj, hmd, rfl, rfl, hbel⟩ := hrel
          have HM := Lib.hid hmd
          clear hmd
          obtain ⟨q, hq⟩ : ∃ q, rate xs (m : Int) ds[m - 1] = q := ⟨_, rfl⟩
          have HQ := Lib.hid hq
          clear hq
          have hy1 : (1 : Int) ≤ (m : Int) := by omega
          have hy2 : IntKind.i64.wrap ((m : Int) - 1) = (m : Int) - 1 := IntWalk.i64_in _ (by omega)
          have hy3 : ((m : Int) - 1).toNat = m - 1 := by omega
          by_cases hlt : j ≤ 5
          · have hjd : j - 1 < ds.length := by omega
            have hz1 : (1 : Int) ≤ (j : Int) := by omega
            have hz2 : IntKind.i64.wrap ((j : Int) - 1) = (j : Int) - 1 := IntWalk.i64_in _ (by omega)
            have hz3 : ((j : Int) - 1).toNat = j - 1 := by omega
            have d0 := Past.cell ((HD.out.below hbel).get hjd 0 (j - 1) rfl (by omega)) (HD.out.below hbel).1
            have d1 := Past.cell ((HD.out.below hbel).get hm 0 (m - 1) rfl (by omega)) (HD.out.below hbel).1
            obtain ⟨r, hr⟩ : ∃ r, rate xs (j : Int) ds[j - 1] = r := ⟨_, rfl⟩
            have HRR := Lib.hid hr
            clear hr
            have hck : ∀ y : Past wr, Calls Try.prog 40 #[.slice (some ⟨b, 0, none⟩) xs.length c, .int .i64 (j : Int), .int .i64 ds[j - 1]] y.w fun e w' => e = .returned (.int .i64 (rate xs (j : Int) ds[j - 1])) ∧ Below y.w.heap.size y.w w' := fun y => l28Rate_any xs b c (j : Int) ds[j - 1] y.w ((HA.out.below hbel).below y.h) (by omega) (HI.out (j - 1) hjd)
            have hcm : ∀ y : Past wr, Calls Try.prog 40 #[.slice (some ⟨b, 0, none⟩) xs.length c, .int .i64 (m : Int), .int .i64 ds[m - 1]] y.w fun e w' => e = .returned (.int .i64 (rate xs (m : Int) ds[m - 1])) ∧ Below y.w.heap.size y.w w' := fun y => l28Rate_any xs b c (m : Int) ds[m - 1] y.w ((HA.out.below hbel).below y.h) (by omega) (HI.out (m - 1) hm)
            have HCK := Lib.hid hck
            have HCM := Lib.hid hcm
            clear hck hcm
            go_wp2_with fail
            refine wp_region_past (by kernel_rfl) (by kernel_rfl) ?_
            repeat (go_big_quiet_step ((go_at_call 40; first | with_reducible exact Past.callI _ HRR.out (HCK.out _) | with_reducible exact Past.callI _ HQ.out (HCM.out _))))
            refine wpQuiet_nil ?_
            intro W1 hw'
            obtain ⟨⟨W_, hbx⟩, hw''⟩ := hw'
            subst hw''
            have hbel := Bel.trans hbel hbx
            clear d0 d1 HCK HCM
            by_cases hqr : q < r
            · go_wp2
              go_roundw
              case rel => exact ⟨j + 1, j, hjd, by omega, by omega, by omega, by omega, mdB_yes hj2 HM.out hjd hm HRR.out HQ.out hqr, by go_num, rfl, hbel⟩
              case measure => simp [intOf]; omega
            · go_wp2
              go_roundw
              case rel => exact ⟨j + 1, m, hm, by omega, by omega, by omega, by omega, mdB_no hj2 HM.out hjd hm HRR.out HQ.out (by omega), by go_num, rfl, hbel⟩
              case measure => simp [intOf]; omega
          · obtain rfl : j = 6 := by omega
            have d1 := (HD.out.below hbel).get hm 0 (m - 1) rfl (by omega)
            go_wp2_with (go_at_call 40; refine (Calls.intIs HQ.out (l28Rate_any xs b c (m : Int) ds[m - 1] _ (HA.out.below hbel) (by omega) (HI.out (m - 1) hm))).mono ?_; rintro e w3 ⟨rfl, hb3⟩)
            go_ret3
            exact ⟨by rw [← HR.out, mdRes_0 HV.out H5.out HN.out HM.out hm HQ.out]; rfl, Bel.trans hbel hb3⟩
  · rw [mdRes_7 HV.out (by rw [decide_eq_false h5, Bool.false_and])]
    have h5' : ((ds.length : Int) != 5) = true := by simp; omega
    clear h5
    go_enter Try.func17, Try.ntmps17
    go_wp2_with (first | (go_at_call 30; refine (Calls.boolIs HV.out (l28Ok_any xs b c _ HA.out hn HF.out)).mono ?_; rintro e w1 ⟨rfl, hb1⟩))
    go_ret3
    exact ⟨rfl, hb1⟩
end Go.Proofs.Ytabhojeikhfcfaa
