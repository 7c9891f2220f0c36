/- Chapter 10: forest. The program's functions and the reference's return the same Lean functions. -/
import Derived.Test.YtcjalooaikfkbaaNam
namespace Go.Proofs.Ytcjalooaikfkbaa
set_option linter.unusedSimpArgs false
set_option linter.unusedVariables false
open Go.RowKit
set_option maxHeartbeats 400000
def okStand (x : SStand) : Bool := isName x.Id && inr 0 2000 x.Trees && inr 0 5000 x.Height && inr 0 1000 x.Cover && inr 0 100 x.Gap
def atStand (xs : List SStand) (i : Nat) : Bool := if h : i < xs.length then okStand xs[i] && (decide (i = 0) || !strLe (xs[i]).Id (xs[i-1]).Id) else false
def vlStand (xs : List SStand) : Bool := (List.range xs.length).all (atStand xs) && decide (xs.length ≤ 16)
theorem vlStand_no {xs : List SStand} {k : Nat} (hk : k < xs.length) (h : atStand xs k = false) : vlStand xs = false := by unfold vlStand; rw [all_range_no hk h, Bool.false_and]
theorem atStand_bad {xs : List SStand} {k : Nat} (hk : k < xs.length) (hv : okStand xs[k] = false) : atStand xs k = false := by simp [atStand, hk, hv]
theorem atStand_0 {xs : List SStand} {k : Nat} (hk : k < xs.length) (hv : okStand xs[k] = true) (h0 : k = 0) : atStand xs k = true := by subst h0; simp [atStand, hk, hv]
theorem atStand_ok {xs : List SStand} {k : Nat} (hk : k < xs.length) (hv : okStand xs[k] = true) (hc : strLe (xs[k]).Id (xs[k-1]).Id = false) : atStand xs k = true := by rw [atStand, dif_pos hk, hv, hc, Bool.true_and, Bool.not_false, Bool.or_true]
theorem atStand_no {xs : List SStand} {k : Nat} (hk : k < xs.length) (h0 : 0 < k) (hc : strLe (xs[k]).Id (xs[k-1]).Id = true) : atStand xs k = false := by rw [atStand, dif_pos hk, hc, decide_eq_false (show ¬ k = 0 by omega), Bool.not_true, Bool.or_false, Bool.and_false]
theorem vlStand_len {xs : List SStand} (h : vlStand xs = true) : xs.length ≤ 16 := by simp only [vlStand, Bool.and_eq_true, decide_eq_true_eq] at h; exact h.2
theorem vlStand_ok {xs : List SStand} (h : vlStand xs = true) : ∀ k (hk : k < xs.length), okStand xs[k] = true := fun k hk => by
  simp only [vlStand, Bool.and_eq_true, List.all_eq_true, List.mem_range] at h; have := h.1 k hk; simp only [atStand, hk, dite_true, Bool.and_eq_true] at this; exact this.1
theorem okStand_bd {x : SStand} (h : okStand x = true) : 0 ≤ x.Trees ∧ x.Trees ≤ 2000 ∧ 0 ≤ x.Height ∧ x.Height ≤ 5000 ∧ 0 ≤ x.Cover ∧ x.Cover ≤ 1000 ∧ 0 ≤ x.Gap ∧ x.Gap ≤ 100 := by
  simp [okStand, inr] at h; omega
def prot (x : SStand) (snow : Int) : Int := if x.Height < 2 * snow then 0 else max (min (min 1000 (rdiv (x.Trees * 1000) 500)) x.Cover - 10 * max (x.Gap - 20) 0) 0
def grownS (x : SStand) : SStand := ⟨x.Id, x.Trees, x.Height + rdiv (5000 - x.Height) 50, x.Cover + rdiv (1000 - x.Cover) 40, max (x.Gap - 1) 0⟩
def growN (x : SStand) : Nat → SStand
  | 0 => x
  | k + 1 => grownS (growN x k)
def bdStand (x : SStand) : Prop := 0 ≤ x.Trees ∧ x.Trees ≤ 2000 ∧ 0 ≤ x.Height ∧ x.Height ≤ 5000 ∧ 0 ≤ x.Cover ∧ x.Cover ≤ 1000 ∧ 0 ≤ x.Gap ∧ x.Gap ≤ 100
theorem rdiv50 (a : Int) (h : 0 ≤ a) : 0 ≤ rdiv a 50 ∧ rdiv a 50 ≤ a := by unfold rdiv; rw [if_neg (by omega)]; omega
theorem rdiv40 (a : Int) (h : 0 ≤ a) : 0 ≤ rdiv a 40 ∧ rdiv a 40 ≤ a := by unfold rdiv; rw [if_neg (by omega)]; omega
theorem rdiv500 (a : Int) (h : 0 ≤ a) : 0 ≤ rdiv a 500 ∧ rdiv a 500 ≤ a := by unfold rdiv; rw [if_neg (by omega)]; omega
theorem bd_grown {x : SStand} (h : bdStand x) : bdStand (grownS x) := by
  unfold bdStand at h ⊢
  have h1 := rdiv50 (5000 - x.Height) (by omega)
  have h2 := rdiv40 (1000 - x.Cover) (by omega)
  simp only [grownS]
  omega
theorem bd_growN {x : SStand} (h : bdStand x) : ∀ k, bdStand (growN x k)
  | 0 => h
  | k + 1 => bd_grown (bd_growN h k)
theorem id_growN (x : SStand) : ∀ k, (growN x k).Id = x.Id
  | 0 => rfl
  | k + 1 => id_growN x k
theorem validStand_any (x : SStand) (w : World) (hs : x.Id.size ≤ 9223372036854775807) : Calls Try.prog 42 #[.agg #[.string x.Id, .int .i64 x.Trees, .int .i64 x.Height, .int .i64 x.Cover, .int .i64 x.Gap]] w fun e w' => e = .returned (.bool (okStand x)) ∧ Below w.heap.size w w' := by
  go_enter Try.func42, Try.ntmps42
  go_wp2_with (first | (go_at_call 80; refine (IsName_any _ _ hs).mono ?_; rintro e w' ⟨rfl, rfl⟩) | (go_at_call 43; refine (within_any _ _ _ _).mono ?_; rintro e w' ⟨rfl, rfl⟩))
  all_goals
    go_ret
    exact ⟨ret_bool (by simp [okStand, *]), (by repeat (first | (with_reducible assumption) | (with_reducible exact Below.refl _ _) | (with_reducible refine Bel.alloc ?_ _) | (with_reducible refine Below.drew ?_) | (with_reducible refine Bel.drewN ?_ _) | (with_reducible refine Bel.setCell ?_ (by (try simp) <;> omega) _) | (with_reducible refine Bel.trans ?_ (by assumption))))⟩
theorem protection_any (x : SStand) (snow : Int) (w : World) (hx : bdStand x) (h1 : 0 ≤ snow) (h2 : snow ≤ 2000) :
    Calls Try.prog 44 #[.agg #[.string x.Id, .int .i64 x.Trees, .int .i64 x.Height, .int .i64 x.Cover, .int .i64 x.Gap], .int .i64 snow] w fun e w' => e = .returned (.int .i64 (prot x snow)) ∧ Below w.heap.size w w' := by
  unfold bdStand at hx
  have hr := rdiv500 (x.Trees * 1000) (by omega)
  by_cases hh : x.Height < 2 * snow
  · go_enter Try.func44, Try.ntmps44
    go_wp2
    go_ret
    exact ⟨ret_int (by rw [prot, if_pos hh]), (by repeat (first | (with_reducible assumption) | (with_reducible exact Below.refl _ _) | (with_reducible refine Bel.alloc ?_ _) | (with_reducible refine Below.drew ?_) | (with_reducible refine Bel.drewN ?_ _) | (with_reducible refine Bel.setCell ?_ (by (try simp) <;> omega) _) | (with_reducible refine Bel.trans ?_ (by assumption))))⟩
  · go_enter Try.func44, Try.ntmps44
    go_wp2_with fail
    refine wp_alloc_out ?_
    intro W hbw hsz hcl hfz
    have hlw : w.heap.size < W.heap.size := by omega
    obtain ⟨p0, p1, p2, p3, p4⟩ := SStand.past (x := x) hcl hlw
    clear hcl hfz hsz
    refine wp_region_past (by kernel_rfl) (by kernel_rfl) ?_
    repeat (go_big_quiet_step ((go_at_call 61; exact Past.drew _ (divRound_any _ _ _ (by omega) (by omega) (by omega) (by omega)))))
    refine wpQuiet_nil ?_
    intro W1 hw'
    obtain ⟨⟨W_, hb1⟩, hw''⟩ := hw'
    subst hw''
    go_wp2
    all_goals
      go_ret
      exact ⟨ret_int (by rw [prot, if_neg (by omega)]; omega), Bel.trans hbw hb1⟩
theorem grown_any (x : SStand) (w : World) (hx : bdStand x) : Calls Try.prog 45 #[.agg #[.string x.Id, .int .i64 x.Trees, .int .i64 x.Height, .int .i64 x.Cover, .int .i64 x.Gap]] w fun e w' => e = .returned (.agg #[.string (grownS x).Id, .int .i64 (grownS x).Trees, .int .i64 (grownS x).Height, .int .i64 (grownS x).Cover, .int .i64 (grownS x).Gap]) ∧ Below w.heap.size w w' := by
  unfold bdStand at hx
  have hr1 := rdiv50 (5000 - x.Height) (by omega)
  have hr2 := rdiv40 (1000 - x.Cover) (by omega)
  go_enter Try.func45, Try.ntmps45
  go_wp2_with fail
  refine wp_box_out2 ?_
  intro W hbw B1 B2
  have p2 := Past.box B1 (j := 2) rfl
  refine wp_region_past_tail 8 (by kernel_rfl) (by kernel_rfl) ?_
  simp only [List.take_succ_cons, List.take_zero, List.drop_succ_cons, List.drop_zero]
  repeat (go_big_quiet_step ((go_at_call 61; exact Past.drew _ (divRound_any _ _ _ (by omega) (by omega) (by omega) (by omega)))))
  refine wpQuiet_nil ?_
  intro W1 hw'
  obtain ⟨⟨W_, hb1⟩, hw''⟩ := hw'
  subst hw''
  clear p2
  have B1 := B1.below hb1
  have B2 := B2.below hb1
  have c2 : W1.cell? ⟨w.heap.size, 2, none⟩ = some (.int .i64 x.Height) := B1.cell 2
  have z2 := B1.free 2
  have hbw := Bel.trans hbw hb1
  go_wp2_with fail
  have B1 := B1.set 2 (.int .i64 (x.Height + rdiv (5000 - x.Height) 50))
  have B2 := B2.far (p := ⟨w.heap.size, 2, none⟩) (Nat.succ_ne_self _) (.int .i64 (x.Height + rdiv (5000 - x.Height) 50))
  have hbw := Bel.setCell hbw (p := ⟨w.heap.size, 2, none⟩) (Nat.le_refl _) (.int .i64 (x.Height + rdiv (5000 - x.Height) 50))
  clear c2 z2 hb1
  generalize (W1.setCell ⟨w.heap.size, 2, none⟩ (.int .i64 (x.Height + rdiv (5000 - x.Height) 50))) = W2 at *
  have p2 := Past.box B1 (j := 3) (v := .int .i64 x.Cover) rfl
  refine wp_region_past_tail 8 (by kernel_rfl) (by kernel_rfl) ?_
  simp only [List.take_succ_cons, List.take_zero, List.drop_succ_cons, List.drop_zero]
  repeat (go_big_quiet_step ((go_at_call 61; exact Past.drew _ (divRound_any _ _ _ (by omega) (by omega) (by omega) (by omega)))))
  refine wpQuiet_nil ?_
  intro W3 hw'
  obtain ⟨⟨W_, hb1⟩, hw''⟩ := hw'
  subst hw''
  clear p2
  have B1 := B1.below hb1
  have B2 := B2.below hb1
  have hbw := Bel.trans hbw hb1
  clear hb1
  have c0 : W3.cell? ⟨w.heap.size, 0, none⟩ = some (.string x.Id) := B1.cell 0
  have c1 : W3.cell? ⟨w.heap.size, 1, none⟩ = some (.int .i64 x.Trees) := B1.cell 1
  have c2 : W3.cell? ⟨w.heap.size, 2, none⟩ = some (.int .i64 (x.Height + rdiv (5000 - x.Height) 50)) := B1.cell 2
  have c3 : W3.cell? ⟨w.heap.size, 3, none⟩ = some (.int .i64 x.Cover) := B1.cell 3
  have c4 : W3.cell? ⟨w.heap.size, 4, none⟩ = some (.int .i64 x.Gap) := B1.cell 4
  have z0 : W3.frozen? ⟨w.heap.size, 0, none⟩ = false := B1.free 0
  have z1 : W3.frozen? ⟨w.heap.size, 1, none⟩ = false := B1.free 1
  have z2 : W3.frozen? ⟨w.heap.size, 2, none⟩ = false := B1.free 2
  have z3 : W3.frozen? ⟨w.heap.size, 3, none⟩ = false := B1.free 3
  have z4 : W3.frozen? ⟨w.heap.size, 4, none⟩ = false := B1.free 4
  have d0 : W3.cell? ⟨w.heap.size + 1, 0, none⟩ = some (.string ⟨#[]⟩) := B2.cell 0
  have d1 : W3.cell? ⟨w.heap.size + 1, 1, none⟩ = some (.int .i64 0) := B2.cell 1
  have d2 : W3.cell? ⟨w.heap.size + 1, 2, none⟩ = some (.int .i64 0) := B2.cell 2
  have d3 : W3.cell? ⟨w.heap.size + 1, 3, none⟩ = some (.int .i64 0) := B2.cell 3
  have d4 : W3.cell? ⟨w.heap.size + 1, 4, none⟩ = some (.int .i64 0) := B2.cell 4
  have y0 : W3.frozen? ⟨w.heap.size + 1, 0, none⟩ = false := B2.free 0
  have y1 : W3.frozen? ⟨w.heap.size + 1, 1, none⟩ = false := B2.free 1
  have y2 : W3.frozen? ⟨w.heap.size + 1, 2, none⟩ = false := B2.free 2
  have y3 : W3.frozen? ⟨w.heap.size + 1, 3, none⟩ = false := B2.free 3
  have y4 : W3.frozen? ⟨w.heap.size + 1, 4, none⟩ = false := B2.free 4
  clear B1 B2
  go_wp2
  · have e : max (x.Gap - 1) 0 = 0 := by omega
    refine bodyPost_ret (v := .agg #[.string x.Id, .int .i64 x.Trees, .int .i64 (x.Height + rdiv (5000 - x.Height) 50), .int .i64 (x.Cover + rdiv (1000 - x.Cover) 40), .int .i64 0]) (by simp [results, Try.results45, go_sem, d0, d1, d2, d3, d4]) rfl ⟨by simp only [grownS, e], ?_⟩
    exact (by repeat (first | (with_reducible assumption) | (with_reducible exact Below.refl _ _) | (with_reducible refine Bel.alloc ?_ _) | (with_reducible refine Below.drew ?_) | (with_reducible refine Bel.drewN ?_ _) | (with_reducible refine Bel.setCell ?_ (by (try simp) <;> omega) _) | (with_reducible refine Bel.trans ?_ (by assumption))))
  · have e : max (x.Gap - 1) 0 = x.Gap - 1 := by omega
    refine bodyPost_ret (v := .agg #[.string x.Id, .int .i64 x.Trees, .int .i64 (x.Height + rdiv (5000 - x.Height) 50), .int .i64 (x.Cover + rdiv (1000 - x.Cover) 40), .int .i64 (x.Gap - 1)]) (by simp [results, Try.results45, go_sem, d0, d1, d2, d3, d4]) rfl ⟨by simp only [grownS, e], ?_⟩
    exact (by repeat (first | (with_reducible assumption) | (with_reducible exact Below.refl _ _) | (with_reducible refine Bel.alloc ?_ _) | (with_reducible refine Below.drew ?_) | (with_reducible refine Bel.drewN ?_ _) | (with_reducible refine Bel.setCell ?_ (by (try simp) <;> omega) _) | (with_reducible refine Bel.trans ?_ (by assumption))))
theorem protectOk_any (a b : Int) (w : World) : Calls Try.prog 47 #[.int .i64 a, .int .i64 b] w fun e w' => e = .returned (.bool (inr 0 2000 a && inr 0 1000 b)) ∧ w = w' := by
  go_enter Try.func47, Try.ntmps47
  go_wp2_with (go_at_call 43; refine (within_any _ _ _ _).mono ?_; rintro e w' ⟨rfl, rfl⟩)
  all_goals
    go_ret
    exact ⟨ret_bool (by simp [*] <;> exact fun h => by simp_all), rfl⟩
def zeroStand : SStand := ⟨⟨#[]⟩, 0, 0, 0, 0⟩
def growStand (x : SStand) (y : Int) : SStand × Int := if okStand x then (if inr 0 200 y then (growN x y.toNat, 0) else (zeroStand, 2)) else (zeroStand, 1)
def yearsUntil (x : SStand) (snow least : Int) : Int × Int :=
  if okStand x then (if inr 0 2000 snow && inr 0 1000 least then (match fst (fun k => decide (least ≤ prot (growN x k) snow)) 201 with | some k => ((k : Int), 0) | none => (0, 3)) else (0, 2)) else (0, 1)
theorem growStand_1 {x : SStand} {y : Int} (h : okStand x = false) : growStand x y = (zeroStand, 1) := by simp [growStand, h]
theorem growStand_2 {x : SStand} {y : Int} (h : okStand x = true) (h2 : inr 0 200 y = false) : growStand x y = (zeroStand, 2) := by simp [growStand, h, h2]
theorem growStand_0 {x : SStand} {y : Int} (h : okStand x = true) (h2 : inr 0 200 y = true) : growStand x y = (growN x y.toNat, 0) := by simp [growStand, h, h2]
theorem yearsUntil_1 {x : SStand} {s l : Int} (h : okStand x = false) : yearsUntil x s l = (0, 1) := by simp [yearsUntil, h]
theorem yearsUntil_2 {x : SStand} {s l : Int} (h : okStand x = true) (h2 : (inr 0 2000 s && inr 0 1000 l) = false) : yearsUntil x s l = (0, 2) := by rw [yearsUntil, if_pos h, h2]; rfl
theorem yearsUntil_3 {x : SStand} {s l : Int} (h : okStand x = true) (h2 : (inr 0 2000 s && inr 0 1000 l) = true) (h3 : ∀ j, j < 201 → decide (l ≤ prot (growN x j) s) = false) : yearsUntil x s l = (0, 3) := by
  rw [yearsUntil, if_pos h, h2, if_pos rfl, fst_none h3]
theorem yearsUntil_0 {x : SStand} {s l : Int} {k : Nat} (h : okStand x = true) (h2 : (inr 0 2000 s && inr 0 1000 l) = true) (hk : k < 201) (h3 : ∀ j, j < k → decide (l ≤ prot (growN x j) s) = false) (h4 : decide (l ≤ prot (growN x k) s) = true) : yearsUntil x s l = ((k : Int), 0) := by
  rw [yearsUntil, if_pos h, h2, if_pos rfl, fst_some hk h3 h4]
theorem inr_bd {lo hi n : Int} (h : inr lo hi n = true) : lo ≤ n ∧ n ≤ hi := by simpa [inr] using h
theorem GrowStand_any (x : SStand) (y : Int) (w : World) (hs : x.Id.size ≤ 9223372036854775807) :
    Calls Try.prog 10 #[.agg #[.string x.Id, .int .i64 x.Trees, .int .i64 x.Height, .int .i64 x.Cover, .int .i64 x.Gap], .int .i64 y] w fun e w' => e = .returned (.tuple #[.agg #[.string (growStand x y).1.Id, .int .i64 (growStand x y).1.Trees, .int .i64 (growStand x y).1.Height, .int .i64 (growStand x y).1.Cover, .int .i64 (growStand x y).1.Gap], .int .i64 (growStand x y).2]) ∧ Below w.heap.size w w' := by
  cases hv : okStand x
  · rw [growStand_1 hv]
    have HV := Lib.hid hv
    clear hv
    go_enter Try.func10, Try.ntmps10
    go_wp2_with fail
    refine calls_box_out2 ?_
    intro W hbw B1 B2
    refine (Calls.boolIs HV.out (validStand_any x _ hs)).mono ?_; rintro e w1 ⟨rfl, hb1⟩
    have hbw := Bel.trans hbw hb1
    have B2 := B2.below hb1
    have d0 : w1.cell? ⟨w.heap.size + 1, 0, none⟩ = some (.string ⟨#[]⟩) := B2.cell 0
    have d1 : w1.cell? ⟨w.heap.size + 1, 1, none⟩ = some (.int .i64 0) := B2.cell 1
    have d2 : w1.cell? ⟨w.heap.size + 1, 2, none⟩ = some (.int .i64 0) := B2.cell 2
    have d3 : w1.cell? ⟨w.heap.size + 1, 3, none⟩ = some (.int .i64 0) := B2.cell 3
    have d4 : w1.cell? ⟨w.heap.size + 1, 4, none⟩ = some (.int .i64 0) := B2.cell 4
    have y0 : w1.frozen? ⟨w.heap.size + 1, 0, none⟩ = false := B2.free 0
    have y1 : w1.frozen? ⟨w.heap.size + 1, 1, none⟩ = false := B2.free 1
    have y2 : w1.frozen? ⟨w.heap.size + 1, 2, none⟩ = false := B2.free 2
    have y3 : w1.frozen? ⟨w.heap.size + 1, 3, none⟩ = false := B2.free 3
    have y4 : w1.frozen? ⟨w.heap.size + 1, 4, none⟩ = false := B2.free 4
    clear B2 B1 hb1
    go_wp2
    exact bodyPost_ret (v := .tuple #[.agg #[.string zeroStand.Id, .int .i64 zeroStand.Trees, .int .i64 zeroStand.Height, .int .i64 zeroStand.Cover, .int .i64 zeroStand.Gap], .int .i64 1]) (by simp [results, Try.results10, go_sem, d0, d1, d2, d3, d4, zeroStand]) rfl ⟨rfl, (by repeat (first | (with_reducible assumption) | (with_reducible exact Below.refl _ _) | (with_reducible refine Bel.alloc ?_ _) | (with_reducible refine Below.drew ?_) | (with_reducible refine Bel.drewN ?_ _) | (with_reducible refine Bel.setCell ?_ (by (try simp) <;> omega) _) | (with_reducible refine Bel.trans ?_ (by assumption))))⟩
  · cases hy : inr 0 200 y
    · rw [growStand_2 hv hy]
      have HV := Lib.hid hv
      have HY := Lib.hid hy
      clear hv hy
      go_enter Try.func10, Try.ntmps10
      go_wp2_with fail
      refine calls_box_out2 ?_
      intro W hbw B1 B2
      refine (Calls.boolIs HV.out (validStand_any x _ hs)).mono ?_; rintro e w1 ⟨rfl, hb1⟩
      have hbw := Bel.trans hbw hb1
      have B2 := B2.below hb1
      have d0 : w1.cell? ⟨w.heap.size + 1, 0, none⟩ = some (.string ⟨#[]⟩) := B2.cell 0
      have d1 : w1.cell? ⟨w.heap.size + 1, 1, none⟩ = some (.int .i64 0) := B2.cell 1
      have d2 : w1.cell? ⟨w.heap.size + 1, 2, none⟩ = some (.int .i64 0) := B2.cell 2
      have d3 : w1.cell? ⟨w.heap.size + 1, 3, none⟩ = some (.int .i64 0) := B2.cell 3
      have d4 : w1.cell? ⟨w.heap.size + 1, 4, none⟩ = some (.int .i64 0) := B2.cell 4
      have y0 : w1.frozen? ⟨w.heap.size + 1, 0, none⟩ = false := B2.free 0
      have y1 : w1.frozen? ⟨w.heap.size + 1, 1, none⟩ = false := B2.free 1
      have y2 : w1.frozen? ⟨w.heap.size + 1, 2, none⟩ = false := B2.free 2
      have y3 : w1.frozen? ⟨w.heap.size + 1, 3, none⟩ = false := B2.free 3
      have y4 : w1.frozen? ⟨w.heap.size + 1, 4, none⟩ = false := B2.free 4
      clear B2 B1 hb1
      go_wp2_with (go_at_call 43; refine (Calls.boolIs HY.out (within_any _ _ _ _)).mono ?_; rintro e w' ⟨rfl, rfl⟩)
      exact bodyPost_ret (v := .tuple #[.agg #[.string zeroStand.Id, .int .i64 zeroStand.Trees, .int .i64 zeroStand.Height, .int .i64 zeroStand.Cover, .int .i64 zeroStand.Gap], .int .i64 2]) (by simp [results, Try.results10, go_sem, d0, d1, d2, d3, d4, zeroStand]) rfl ⟨rfl, (by repeat (first | (with_reducible assumption) | (with_reducible exact Below.refl _ _) | (with_reducible refine Bel.alloc ?_ _) | (with_reducible refine Below.drew ?_) | (with_reducible refine Bel.drewN ?_ _) | (with_reducible refine Bel.setCell ?_ (by (try simp) <;> omega) _) | (with_reducible refine Bel.trans ?_ (by assumption))))⟩
    · rw [growStand_0 hv hy]
      obtain ⟨hy0, hy1⟩ := inr_bd hy
      have hbd : bdStand x := okStand_bd hv
      have HV := Lib.hid hv
      have HY := Lib.hid hy
      have HB := Lib.hid hbd
      clear hv hy hbd
      go_enter Try.func10, Try.ntmps10
      go_wp2_with fail
      refine calls_box_out2 ?_
      intro W hbw B1 B2
      refine (Calls.boolIs HV.out (validStand_any x _ hs)).mono ?_; rintro e w1 ⟨rfl, hb1⟩
      have hbw := Bel.trans hbw hb1
      have B1 := B1.below hb1
      have B2 := B2.below hb1
      have HB1 := Lib.hid B1
      have HB2 := Lib.hid B2
      clear B1 B2 hb1
      go_wp2_with (go_at_call 43; refine (Calls.boolIs HY.out (within_any _ _ _ _)).mono ?_; rintro e w' ⟨rfl, rfl⟩)
      go_loopw [17] (fun i wr => ∃ k : Nat, (k : Int) ≤ y ∧ i = .int .i64 k ∧ Box 25 wr w.heap.size #[.string (growN x k).Id, .int .i64 (growN x k).Trees, .int .i64 (growN x k).Height, .int .i64 (growN x k).Cover, .int .i64 (growN x k).Gap] ∧ Box 25 wr (w.heap.size + 1) #[.string zeroStand.Id, .int .i64 zeroStand.Trees, .int .i64 zeroStand.Height, .int .i64 zeroStand.Cover, .int .i64 zeroStand.Gap] ∧ Below w.heap.size w wr) (fun i wr => (y - intOf i).toNat)
      case atStart => exact ⟨0, hy0, rfl, HB1.out, HB2.out, hbw⟩
      case round =>
        clear HB1 HB2
        obtain ⟨k, hk, rfl, B1, B2, hbel⟩ := hrel
        by_cases hlt : (k : Int) < y
        · have c0 : wr.cell? ⟨w.heap.size, 0, none⟩ = some (.string (growN x k).Id) := B1.cell 0
          have c1 : wr.cell? ⟨w.heap.size, 1, none⟩ = some (.int .i64 (growN x k).Trees) := B1.cell 1
          have c2 : wr.cell? ⟨w.heap.size, 2, none⟩ = some (.int .i64 (growN x k).Height) := B1.cell 2
          have c3 : wr.cell? ⟨w.heap.size, 3, none⟩ = some (.int .i64 (growN x k).Cover) := B1.cell 3
          have c4 : wr.cell? ⟨w.heap.size, 4, none⟩ = some (.int .i64 (growN x k).Gap) := B1.cell 4
          have z0 : wr.frozen? ⟨w.heap.size, 0, none⟩ = false := B1.free 0
          have z1 : wr.frozen? ⟨w.heap.size, 1, none⟩ = false := B1.free 1
          have z2 : wr.frozen? ⟨w.heap.size, 2, none⟩ = false := B1.free 2
          have z3 : wr.frozen? ⟨w.heap.size, 3, none⟩ = false := B1.free 3
          have z4 : wr.frozen? ⟨w.heap.size, 4, none⟩ = false := B1.free 4
          clear z0 z1 z2 z3 z4
          have HB1 := Lib.hid B1
          have HB2 := Lib.hid B2
          have hl1 := B1.lt
          clear B1 B2
          go_wp2_with fail
          refine (grown_any (growN x k) _ (bd_growN HB.out k)).mono ?_
          rintro e w2 ⟨rfl, hb2⟩
          have B1 := HB1.out.below hb2
          have B2 := HB2.out.below hb2
          have hbt := Bel.trans hbel hb2
          clear HB1 HB2 c0 c1 c2 c3 c4
          have c0 : w2.cell? ⟨w.heap.size, 0, none⟩ = some (.string (growN x k).Id) := B1.cell 0
          have c1 : w2.cell? ⟨w.heap.size, 1, none⟩ = some (.int .i64 (growN x k).Trees) := B1.cell 1
          have c2 : w2.cell? ⟨w.heap.size, 2, none⟩ = some (.int .i64 (growN x k).Height) := B1.cell 2
          have c3 : w2.cell? ⟨w.heap.size, 3, none⟩ = some (.int .i64 (growN x k).Cover) := B1.cell 3
          have c4 : w2.cell? ⟨w.heap.size, 4, none⟩ = some (.int .i64 (growN x k).Gap) := B1.cell 4
          have z0 : w2.frozen? ⟨w.heap.size, 0, none⟩ = false := B1.free 0
          have z1 : w2.frozen? ⟨w.heap.size, 1, none⟩ = false := B1.free 1
          have z2 : w2.frozen? ⟨w.heap.size, 2, none⟩ = false := B1.free 2
          have z3 : w2.frozen? ⟨w.heap.size, 3, none⟩ = false := B1.free 3
          have z4 : w2.frozen? ⟨w.heap.size, 4, none⟩ = false := B1.free 4
          have HB1 := Lib.hid B1
          have HB2 := Lib.hid B2
          clear B1 B2
          go_wp2
          go_roundw
          case rel => exact ⟨k + 1, by omega, by go_num, HB1.out.setAll (SStand.cells (growN x (k + 1))) rfl, ((((HB2.out.far (Nat.succ_ne_self _) _).far (Nat.succ_ne_self _) _).far (Nat.succ_ne_self _) _).far (Nat.succ_ne_self _) _).far (Nat.succ_ne_self _) _, Bel.setAll (Nat.le_refl _) (SStand.cells (growN x (k + 1))) 0 hbt⟩
          case measure => simp [intOf]; omega
        · obtain rfl : y = (k : Int) := by omega
          have c0 : wr.cell? ⟨w.heap.size, 0, none⟩ = some (.string (growN x k).Id) := B1.cell 0
          have c1 : wr.cell? ⟨w.heap.size, 1, none⟩ = some (.int .i64 (growN x k).Trees) := B1.cell 1
          have c2 : wr.cell? ⟨w.heap.size, 2, none⟩ = some (.int .i64 (growN x k).Height) := B1.cell 2
          have c3 : wr.cell? ⟨w.heap.size, 3, none⟩ = some (.int .i64 (growN x k).Cover) := B1.cell 3
          have c4 : wr.cell? ⟨w.heap.size, 4, none⟩ = some (.int .i64 (growN x k).Gap) := B1.cell 4
          have z0 : wr.frozen? ⟨w.heap.size, 0, none⟩ = false := B1.free 0
          have z1 : wr.frozen? ⟨w.heap.size, 1, none⟩ = false := B1.free 1
          have z2 : wr.frozen? ⟨w.heap.size, 2, none⟩ = false := B1.free 2
          have z3 : wr.frozen? ⟨w.heap.size, 3, none⟩ = false := B1.free 3
          have z4 : wr.frozen? ⟨w.heap.size, 4, none⟩ = false := B1.free 4
          have d0 : wr.cell? ⟨w.heap.size + 1, 0, none⟩ = some (.string zeroStand.Id) := B2.cell 0
          have d1 : wr.cell? ⟨w.heap.size + 1, 1, none⟩ = some (.int .i64 zeroStand.Trees) := B2.cell 1
          have d2 : wr.cell? ⟨w.heap.size + 1, 2, none⟩ = some (.int .i64 zeroStand.Height) := B2.cell 2
          have d3 : wr.cell? ⟨w.heap.size + 1, 3, none⟩ = some (.int .i64 zeroStand.Cover) := B2.cell 3
          have d4 : wr.cell? ⟨w.heap.size + 1, 4, none⟩ = some (.int .i64 zeroStand.Gap) := B2.cell 4
          have y0 : wr.frozen? ⟨w.heap.size + 1, 0, none⟩ = false := B2.free 0
          have y1 : wr.frozen? ⟨w.heap.size + 1, 1, none⟩ = false := B2.free 1
          have y2 : wr.frozen? ⟨w.heap.size + 1, 2, none⟩ = false := B2.free 2
          have y3 : wr.frozen? ⟨w.heap.size + 1, 3, none⟩ = false := B2.free 3
          have y4 : wr.frozen? ⟨w.heap.size + 1, 4, none⟩ = false := B2.free 4
          clear B1 B2
          go_wp2
          exact bodyPost_ret (v := .tuple #[.agg #[.string (growN x k).Id, .int .i64 (growN x k).Trees, .int .i64 (growN x k).Height, .int .i64 (growN x k).Cover, .int .i64 (growN x k).Gap], .int .i64 0]) (by simp [results, Try.results10, go_sem, d0, d1, d2, d3, d4]) rfl ⟨rfl, (by repeat (first | (with_reducible assumption) | (with_reducible exact Below.refl _ _) | (with_reducible refine Bel.alloc ?_ _) | (with_reducible refine Below.drew ?_) | (with_reducible refine Bel.drewN ?_ _) | (with_reducible refine Bel.setCell ?_ (by (try simp) <;> omega) _) | (with_reducible refine Bel.trans ?_ (by assumption))))⟩
set_option maxRecDepth 100000 in
set_option maxHeartbeats 1000000 in
theorem YearsUntil_any (x : SStand) (snow least : Int) (w : World) (hs : x.Id.size ≤ 9223372036854775807) :
    Calls Try.prog 14 #[.agg #[.string x.Id, .int .i64 x.Trees, .int .i64 x.Height, .int .i64 x.Cover, .int .i64 x.Gap], .int .i64 snow, .int .i64 least] w fun e w' => e = .returned (.tuple #[.int .i64 (yearsUntil x snow least).1, .int .i64 (yearsUntil x snow least).2]) ∧ Below w.heap.size w w' := by
  cases hv : okStand x
  · rw [yearsUntil_1 hv]
    have HV := Lib.hid hv
    clear hv
    go_enter Try.func14, Try.ntmps14
    go_wp2_with fail
    refine calls_box_out ?_
    intro W hbw B1
    refine (Calls.boolIs HV.out (validStand_any x _ hs)).mono ?_; rintro e w1 ⟨rfl, hb1⟩
    have hbw := Bel.trans hbw hb1
    clear B1 hb1
    go_wp2
    go_ret2
    exact ⟨rfl, (by repeat (first | (with_reducible assumption) | (with_reducible exact Below.refl _ _) | (with_reducible refine Bel.alloc ?_ _) | (with_reducible refine Below.drew ?_) | (with_reducible refine Bel.drewN ?_ _) | (with_reducible refine Bel.setCell ?_ (by (try simp) <;> omega) _) | (with_reducible refine Bel.trans ?_ (by assumption))))⟩
  · cases hy : (inr 0 2000 snow && inr 0 1000 least)
    · rw [yearsUntil_2 hv hy]
      have HV := Lib.hid hv
      have HY := Lib.hid hy
      clear hv hy
      go_enter Try.func14, Try.ntmps14
      go_wp2_with fail
      refine calls_box_out ?_
      intro W hbw B1
      refine (Calls.boolIs HV.out (validStand_any x _ hs)).mono ?_; rintro e w1 ⟨rfl, hb1⟩
      have hbw := Bel.trans hbw hb1
      clear B1 hb1
      go_wp2_with (go_at_call 47; refine (Calls.boolIs HY.out (protectOk_any _ _ _)).mono ?_; rintro e w' ⟨rfl, rfl⟩); go_ret2; exact ⟨rfl, (by repeat (first | (with_reducible assumption) | (with_reducible exact Below.refl _ _) | (with_reducible refine Bel.alloc ?_ _) | (with_reducible refine Below.drew ?_) | (with_reducible refine Bel.drewN ?_ _) | (with_reducible refine Bel.setCell ?_ (by (try simp) <;> omega) _) | (with_reducible refine Bel.trans ?_ (by assumption))))⟩
    · obtain ⟨hy0, hy1⟩ : inr 0 2000 snow = true ∧ inr 0 1000 least = true := by simpa using hy
      obtain ⟨hs0, hs1⟩ := inr_bd hy0
      have hbd : bdStand x := okStand_bd hv
      have HV := Lib.hid hv
      have HY := Lib.hid hy
      have HY0 := Lib.hid hy0
      have HY1 := Lib.hid hy1
      have HB := Lib.hid hbd
      clear hv hy hbd hy0 hy1
      go_enter Try.func14, Try.ntmps14
      go_wp2_with fail
      refine calls_box_out ?_
      intro W hbw B1
      refine (Calls.boolIs HV.out (validStand_any x _ hs)).mono ?_; rintro e w1 ⟨rfl, hb1⟩
      have hbw := Bel.trans hbw hb1
      have B1 := B1.below hb1
      have HB1 := Lib.hid B1
      clear B1 hb1
      go_wp2_with (go_at_call 47; refine (Calls.boolIs HY.out (protectOk_any _ _ _)).mono ?_; rintro e w' ⟨rfl, rfl⟩)
      go_loopw [18] (fun i wr => ∃ k : Nat, k ≤ 201 ∧ i = .int .i64 k ∧ Box 25 wr w.heap.size #[.string (growN x k).Id, .int .i64 (growN x k).Trees, .int .i64 (growN x k).Height, .int .i64 (growN x k).Cover, .int .i64 (growN x k).Gap] ∧ Below w.heap.size w wr ∧ ∀ j, j < k → decide (least ≤ prot (growN x j) snow) = false) (fun i wr => 201 - (intOf i).toNat)
      case atStart => exact ⟨0, by omega, rfl, HB1.out, hbw, fun j hj => absurd hj (Nat.not_lt_zero j)⟩
      case round =>
        clear HB1
        obtain ⟨k, hk, rfl, B1, hbel, hall⟩ := hrel
        have HA := Lib.hid hall
        clear hall
        by_cases hlt : k < 201
        · have c0 : wr.cell? ⟨w.heap.size, 0, none⟩ = some (.string (growN x k).Id) := B1.cell 0
          have c1 : wr.cell? ⟨w.heap.size, 1, none⟩ = some (.int .i64 (growN x k).Trees) := B1.cell 1
          have c2 : wr.cell? ⟨w.heap.size, 2, none⟩ = some (.int .i64 (growN x k).Height) := B1.cell 2
          have c3 : wr.cell? ⟨w.heap.size, 3, none⟩ = some (.int .i64 (growN x k).Cover) := B1.cell 3
          have c4 : wr.cell? ⟨w.heap.size, 4, none⟩ = some (.int .i64 (growN x k).Gap) := B1.cell 4
          have z0 : wr.frozen? ⟨w.heap.size, 0, none⟩ = false := B1.free 0
          have z1 : wr.frozen? ⟨w.heap.size, 1, none⟩ = false := B1.free 1
          have z2 : wr.frozen? ⟨w.heap.size, 2, none⟩ = false := B1.free 2
          have z3 : wr.frozen? ⟨w.heap.size, 3, none⟩ = false := B1.free 3
          have z4 : wr.frozen? ⟨w.heap.size, 4, none⟩ = false := B1.free 4
          clear z0 z1 z2 z3 z4
          have HB1 := Lib.hid B1
          have hl1 := B1.lt
          clear B1
          obtain ⟨q, hq⟩ : ∃ q, prot (growN x k) snow = q := ⟨_, rfl⟩
          have HQ := Lib.hid hq
          clear hq
          by_cases hp' : q < least
          · have HP : Hid (decide (least ≤ prot (growN x k) snow) = false) := by
              show decide (least ≤ prot (growN x k) snow) = false
              rw [HQ.out]; simpa using hp'
            go_wp2_with fail
            refine (Calls.intIs HQ.out (protection_any (growN x k) snow _ (bd_growN HB.out k) (by omega) (by omega))).mono ?_
            rintro e w2 ⟨rfl, hb2⟩
            have B1 := HB1.out.below hb2
            have hbt := Bel.trans hbel hb2
            have hl2 := B1.lt
            clear HB1 c0 c1 c2 c3 c4
            have c0 : w2.cell? ⟨w.heap.size, 0, none⟩ = some (.string (growN x k).Id) := B1.cell 0
            have c1 : w2.cell? ⟨w.heap.size, 1, none⟩ = some (.int .i64 (growN x k).Trees) := B1.cell 1
            have c2 : w2.cell? ⟨w.heap.size, 2, none⟩ = some (.int .i64 (growN x k).Height) := B1.cell 2
            have c3 : w2.cell? ⟨w.heap.size, 3, none⟩ = some (.int .i64 (growN x k).Cover) := B1.cell 3
            have c4 : w2.cell? ⟨w.heap.size, 4, none⟩ = some (.int .i64 (growN x k).Gap) := B1.cell 4
            have z0 : w2.frozen? ⟨w.heap.size, 0, none⟩ = false := B1.free 0
            have z1 : w2.frozen? ⟨w.heap.size, 1, none⟩ = false := B1.free 1
            have z2 : w2.frozen? ⟨w.heap.size, 2, none⟩ = false := B1.free 2
            have z3 : w2.frozen? ⟨w.heap.size, 3, none⟩ = false := B1.free 3
            have z4 : w2.frozen? ⟨w.heap.size, 4, none⟩ = false := B1.free 4
            clear z0 z1 z2 z3 z4
            have HB1 := Lib.hid B1
            clear B1
            go_wp2_with fail
            refine (grown_any (growN x k) _ (bd_growN HB.out k)).mono ?_
            rintro e w3 ⟨rfl, hb3⟩
            have B1 := HB1.out.below hb3
            have hbt := Bel.trans hbt hb3
            clear HB1 c0 c1 c2 c3 c4
            have c0 : w3.cell? ⟨w.heap.size, 0, none⟩ = some (.string (growN x k).Id) := B1.cell 0
            have c1 : w3.cell? ⟨w.heap.size, 1, none⟩ = some (.int .i64 (growN x k).Trees) := B1.cell 1
            have c2 : w3.cell? ⟨w.heap.size, 2, none⟩ = some (.int .i64 (growN x k).Height) := B1.cell 2
            have c3 : w3.cell? ⟨w.heap.size, 3, none⟩ = some (.int .i64 (growN x k).Cover) := B1.cell 3
            have c4 : w3.cell? ⟨w.heap.size, 4, none⟩ = some (.int .i64 (growN x k).Gap) := B1.cell 4
            have z0 : w3.frozen? ⟨w.heap.size, 0, none⟩ = false := B1.free 0
            have z1 : w3.frozen? ⟨w.heap.size, 1, none⟩ = false := B1.free 1
            have z2 : w3.frozen? ⟨w.heap.size, 2, none⟩ = false := B1.free 2
            have z3 : w3.frozen? ⟨w.heap.size, 3, none⟩ = false := B1.free 3
            have z4 : w3.frozen? ⟨w.heap.size, 4, none⟩ = false := B1.free 4
            have HB1 := Lib.hid B1
            clear B1
            go_wp2
            go_roundw
            case rel => exact ⟨k + 1, by omega, by go_num, HB1.out.setAll (SStand.cells (growN x (k + 1))) rfl, Bel.setAll (Nat.le_refl _) (SStand.cells (growN x (k + 1))) 0 hbt, upto_snoc HA.out HP.out⟩
            case measure => simp [intOf]; omega
          · have HP : Hid (decide (least ≤ prot (growN x k) snow) = true) := by
              show decide (least ≤ prot (growN x k) snow) = true
              rw [HQ.out]; simpa using hp'
            go_wp2_with fail
            refine (Calls.intIs HQ.out (protection_any (growN x k) snow _ (bd_growN HB.out k) (by omega) (by omega))).mono ?_
            rintro e w2 ⟨rfl, hb2⟩
            have hbt := Bel.trans hbel hb2
            clear HB1 c0 c1 c2 c3 c4
            go_wp2
            go_ret2
            exact ⟨by rw [yearsUntil_0 HV.out HY.out hlt HA.out HP.out]; rfl, hbt⟩
        · obtain rfl : k = 201 := by omega
          clear B1
          go_wp2
          go_ret2
          exact ⟨by rw [yearsUntil_3 HV.out HY.out HA.out]; rfl, hbel⟩
end Go.Proofs.Ytcjalooaikfkbaa
