/- Chapter 10: how many trees of a stand can be felled. -/
import Derived.Test.YtamolhhccfnlfaaL10
namespace Go.Proofs.Ytamolhhccfnlfaa
open Go.RowKit
set_option maxHeartbeats 1000000
set_option maxRecDepth 100000
def felS (x : SStand) (t : Int) : SStand := ⟨x.Id, x.Trees - t, x.Height, x.Cover - rdiv (x.Cover * t) x.Trees, x.Gap⟩
def fel (x : SStand) (t : Int) : SStand := if 0 < t then felS x t else x
theorem fel_pos {x : SStand} {t : Int} (h : 0 < t) : fel x t = felS x t := if_pos h
theorem fel_0 {x : SStand} {t : Int} (h : ¬ 0 < t) : fel x t = x := if_neg h
theorem fel_mul {c t T : Int} (hc : 0 ≤ c) (hc2 : c ≤ 1000) (ht : 0 ≤ t) (h : t ≤ T) (hT : T ≤ 2000) : 0 ≤ c * t ∧ c * t ≤ c * T ∧ c * t ≤ 2000000 := by
  have h1 := Int.mul_nonneg hc ht
  have h2 := Int.mul_le_mul_of_nonneg_left h hc
  have h3 : c * T ≤ 1000 * T := Int.mul_le_mul_of_nonneg_right hc2 (by omega)
  omega
theorem fel_rdiv {c t T : Int} (hc : 0 ≤ c) (hc2 : c ≤ 1000) (ht : 0 ≤ t) (h : t ≤ T) (hT0 : 0 < T) (hT : T ≤ 2000) : 0 ≤ rdiv (c * t) T ∧ rdiv (c * t) T ≤ c := by
  obtain ⟨h1, h2, _⟩ := fel_mul hc hc2 ht h hT
  unfold rdiv
  rw [if_neg (by omega)]
  constructor
  · exact Int.ediv_nonneg (by omega) (by omega)
  · have : (2 * (c * t) + T) / (2 * T) < c + 1 := by
      refine Int.ediv_lt_of_lt_mul (by omega) ?_
      have e : (c + 1) * (2 * T) = 2 * (c * T) + 2 * T := by rw [Int.add_mul, Int.mul_left_comm, Int.one_mul]
      omega
    omega
theorem bd_fel {x : SStand} (h : bdStand x) {t : Int} (h0 : 0 ≤ t) (h1 : t ≤ x.Trees) : bdStand (fel x t) := by
  by_cases hp : 0 < t
  · rw [fel_pos hp]
    unfold bdStand at h ⊢
    have := fel_rdiv (c := x.Cover) (t := t) (T := x.Trees) (by omega) (by omega) h0 h1 (by omega) (by omega)
    simp only [felS]
    omega
  · rw [fel_0 hp]; exact h
theorem prot_fel {x : SStand} (h : bdStand x) {t : Int} (h0 : 0 ≤ t) (h1 : t ≤ x.Trees) (s : Int) : prot (fel x t) s ≤ prot x s := by
  by_cases hp : 0 < t
  · rw [fel_pos hp]
    unfold bdStand at h
    have := fel_rdiv (c := x.Cover) (t := t) (T := x.Trees) (by omega) (by omega) h0 h1 (by omega) (by omega)
    have hr : rdiv ((x.Trees - t) * 1000) 500 ≤ rdiv (x.Trees * 1000) 500 := by
      unfold rdiv; rw [if_neg (by omega), if_neg (by omega)]; omega
    unfold prot
    simp only [felS]
    split <;> omega
  · rw [fel_0 hp]; exact Int.le_refl _
def mfP (x : SStand) (s l : Int) (k : Nat) : Bool := decide (l ≤ prot (fel x (x.Trees - k)) s)
def mostFelled (x : SStand) (s l : Int) : Int × Int :=
  if okStand x then (if inr 0 2000 s && inr 0 1000 l then (match fst (mfP x s l) (x.Trees.toNat + 1) with | some k => (x.Trees - k, 0) | none => (0, 3)) else (0, 2)) else (0, 1)
theorem mostFelled_1 {x : SStand} {s l : Int} (h : okStand x = false) : mostFelled x s l = (0, 1) := by simp [mostFelled, h]
theorem mostFelled_2 {x : SStand} {s l : Int} (h : okStand x = true) (h2 : (inr 0 2000 s && inr 0 1000 l) = false) : mostFelled x s l = (0, 2) := by rw [mostFelled, if_pos h, h2]; rfl
theorem mostFelled_3 {x : SStand} {s l : Int} (h : okStand x = true) (h2 : (inr 0 2000 s && inr 0 1000 l) = true) (h3 : ∀ j, j < x.Trees.toNat + 1 → mfP x s l j = false) : mostFelled x s l = (0, 3) := by
  rw [mostFelled, if_pos h, h2, if_pos rfl, fst_none h3]
theorem mostFelled_4 {x : SStand} {s l : Int} (h : okStand x = true) (h2 : (inr 0 2000 s && inr 0 1000 l) = true) (h3 : prot x s < l) : mostFelled x s l = (0, 3) :=
  mostFelled_3 h h2 fun j hj => by
    have hb := okStand_bd h
    have := prot_fel (x := x) hb (t := x.Trees - j) (by omega) (by omega) s
    exact decide_eq_false (by omega)
theorem mostFelled_0 {x : SStand} {s l : Int} {k : Nat} (h : okStand x = true) (h2 : (inr 0 2000 s && inr 0 1000 l) = true) (hk : k < x.Trees.toNat + 1) (h3 : ∀ j, j < k → mfP x s l j = false) (h4 : mfP x s l k = true) : mostFelled x s l = (x.Trees - k, 0) := by
  rw [mostFelled, if_pos h, h2, if_pos rfl, fst_some hk h3 h4]
theorem felled_any (x : SStand) (t : Int) (w : World) (hx : bdStand x) (h0 : 0 < t) (h1 : t ≤ x.Trees) :
    Calls Try.prog 76 #[.agg #[.string x.Id, .int .i64 x.Trees, .int .i64 x.Height, .int .i64 x.Cover, .int .i64 x.Gap], .int .i64 t] w fun e w' => e = .returned (.agg #[.string (felS x t).Id, .int .i64 (felS x t).Trees, .int .i64 (felS x t).Height, .int .i64 (felS x t).Cover, .int .i64 (felS x t).Gap]) ∧ Below w.heap.size w w' := by
  unfold bdStand at hx
  have hm := fel_mul (c := x.Cover) (t := t) (T := x.Trees) (by omega) (by omega) (by omega) h1 (by omega)
  have hr := fel_rdiv (c := x.Cover) (t := t) (T := x.Trees) (by omega) (by omega) (by omega) h1 (by omega) (by omega)
  have hT : 0 < x.Trees := by omega
  go_enter Try.func76, Try.ntmps76
  go_wp2_with fail
  refine wp_box_out2 ?_
  intro W hbw B1 B2
  have p1 := Past.box B1 (j := 1) (v := .int .i64 x.Trees) rfl
  have p3 := Past.box B1 (j := 3) (v := .int .i64 x.Cover) rfl
  refine wp_region_past_tail 11 (by kernel_rfl) (by kernel_rfl) ?_
  simp only [List.take_succ_cons, List.take_zero, List.drop_succ_cons, List.drop_zero]
  repeat (go_big_quiet_step ((go_at_call 82; exact Past.drew _ (divRound_any _ _ _ (by omega) (by omega) (by omega) (by omega)))))
  refine wpQuiet_nil ?_
  intro W1 hw'
  obtain ⟨⟨W_, hb1⟩, hw''⟩ := hw'
  subst hw''
  clear p1 p3
  have B1 := B1.below hb1
  have B2 := B2.below hb1
  have hbw := Bel.trans hbw hb1
  clear hb1
  have c0 : W1.cell? ⟨w.heap.size, 0, none⟩ = some (.string x.Id) := B1.cell 0
  have c1 : W1.cell? ⟨w.heap.size, 1, none⟩ = some (.int .i64 x.Trees) := B1.cell 1
  have c2 : W1.cell? ⟨w.heap.size, 2, none⟩ = some (.int .i64 x.Height) := B1.cell 2
  have c3 : W1.cell? ⟨w.heap.size, 3, none⟩ = some (.int .i64 x.Cover) := B1.cell 3
  have c4 : W1.cell? ⟨w.heap.size, 4, none⟩ = some (.int .i64 x.Gap) := B1.cell 4
  have z0 : W1.frozen? ⟨w.heap.size, 0, none⟩ = false := B1.free 0
  have z1 : W1.frozen? ⟨w.heap.size, 1, none⟩ = false := B1.free 1
  have z2 : W1.frozen? ⟨w.heap.size, 2, none⟩ = false := B1.free 2
  have z3 : W1.frozen? ⟨w.heap.size, 3, none⟩ = false := B1.free 3
  have z4 : W1.frozen? ⟨w.heap.size, 4, none⟩ = false := B1.free 4
  have d0 : W1.cell? ⟨w.heap.size + 1, 0, none⟩ = some (.string ⟨#[]⟩) := B2.cell 0
  have d1 : W1.cell? ⟨w.heap.size + 1, 1, none⟩ = some (.int .i64 0) := B2.cell 1
  have d2 : W1.cell? ⟨w.heap.size + 1, 2, none⟩ = some (.int .i64 0) := B2.cell 2
  have d3 : W1.cell? ⟨w.heap.size + 1, 3, none⟩ = some (.int .i64 0) := B2.cell 3
  have d4 : W1.cell? ⟨w.heap.size + 1, 4, none⟩ = some (.int .i64 0) := B2.cell 4
  have y0 : W1.frozen? ⟨w.heap.size + 1, 0, none⟩ = false := B2.free 0
  have y1 : W1.frozen? ⟨w.heap.size + 1, 1, none⟩ = false := B2.free 1
  have y2 : W1.frozen? ⟨w.heap.size + 1, 2, none⟩ = false := B2.free 2
  have y3 : W1.frozen? ⟨w.heap.size + 1, 3, none⟩ = false := B2.free 3
  have y4 : W1.frozen? ⟨w.heap.size + 1, 4, none⟩ = false := B2.free 4
  clear B1 B2
  go_wp2
  refine bodyPost_ret (v := .agg #[.string (felS x t).Id, .int .i64 (felS x t).Trees, .int .i64 (felS x t).Height, .int .i64 (felS x t).Cover, .int .i64 (felS x t).Gap]) (by simp [results, Try.results76, go_sem, d0, d1, d2, d3, d4, felS]) rfl ⟨rfl, ?_⟩
  exact (by repeat (first | (with_reducible assumption) | (with_reducible exact Below.refl _ _) | (with_reducible refine Bel.alloc ?_ _) | (with_reducible refine Below.drew ?_) | (with_reducible refine Bel.drewN ?_ _) | (with_reducible refine Bel.setCell ?_ (by (try simp) <;> omega) _) | (with_reducible refine Bel.trans ?_ (by assumption))))
theorem l10Fell_pos (x : SStand) (t : Int) (w : World) (hx : bdStand x) (h0 : 0 < t) (h1 : t ≤ x.Trees) :
    Calls Try.prog 71 #[.agg #[.string x.Id, .int .i64 x.Trees, .int .i64 x.Height, .int .i64 x.Cover, .int .i64 x.Gap], .int .i64 t] w fun e w' => e = .returned (.agg #[.string (felS x t).Id, .int .i64 (felS x t).Trees, .int .i64 (felS x t).Height, .int .i64 (felS x t).Cover, .int .i64 (felS x t).Gap]) ∧ Below w.heap.size w w' := by
  unfold bdStand at hx
  have hm := fel_mul (c := x.Cover) (t := t) (T := x.Trees) (by omega) (by omega) (by omega) h1 (by omega)
  have hr := fel_rdiv (c := x.Cover) (t := t) (T := x.Trees) (by omega) (by omega) (by omega) h1 (by omega) (by omega)
  have hT : 0 < x.Trees := by omega
  go_enter Try.func71, Try.ntmps71
  go_wp2_with fail
  refine wp_box_out2 ?_
  intro W hbw B1 B2
  have p1 := Past.box B1 (j := 1) (v := .int .i64 x.Trees) rfl
  have p3 := Past.box B1 (j := 3) (v := .int .i64 x.Cover) rfl
  refine wp_region_past_tail 11 (by kernel_rfl) (by kernel_rfl) ?_
  simp only [List.take_succ_cons, List.take_zero, List.drop_succ_cons, List.drop_zero]
  repeat (go_big_quiet_step ((go_at_call 94; exact Past.same _ (l01Div_any _ _ _ (by omega) (by omega) (by omega) (by omega)))))
  refine wpQuiet_nil ?_
  intro W1 hw'
  obtain ⟨⟨W_, hb1⟩, hw''⟩ := hw'
  subst hw''
  clear p1 p3
  have B1 := B1.below hb1
  have B2 := B2.below hb1
  have hbw := Bel.trans hbw hb1
  clear hb1
  have c0 : W1.cell? ⟨w.heap.size, 0, none⟩ = some (.string x.Id) := B1.cell 0
  have c1 : W1.cell? ⟨w.heap.size, 1, none⟩ = some (.int .i64 x.Trees) := B1.cell 1
  have c2 : W1.cell? ⟨w.heap.size, 2, none⟩ = some (.int .i64 x.Height) := B1.cell 2
  have c3 : W1.cell? ⟨w.heap.size, 3, none⟩ = some (.int .i64 x.Cover) := B1.cell 3
  have c4 : W1.cell? ⟨w.heap.size, 4, none⟩ = some (.int .i64 x.Gap) := B1.cell 4
  have z0 : W1.frozen? ⟨w.heap.size, 0, none⟩ = false := B1.free 0
  have z1 : W1.frozen? ⟨w.heap.size, 1, none⟩ = false := B1.free 1
  have z2 : W1.frozen? ⟨w.heap.size, 2, none⟩ = false := B1.free 2
  have z3 : W1.frozen? ⟨w.heap.size, 3, none⟩ = false := B1.free 3
  have z4 : W1.frozen? ⟨w.heap.size, 4, none⟩ = false := B1.free 4
  have d0 : W1.cell? ⟨w.heap.size + 1, 0, none⟩ = some (.string ⟨#[]⟩) := B2.cell 0
  have d1 : W1.cell? ⟨w.heap.size + 1, 1, none⟩ = some (.int .i64 0) := B2.cell 1
  have d2 : W1.cell? ⟨w.heap.size + 1, 2, none⟩ = some (.int .i64 0) := B2.cell 2
  have d3 : W1.cell? ⟨w.heap.size + 1, 3, none⟩ = some (.int .i64 0) := B2.cell 3
  have d4 : W1.cell? ⟨w.heap.size + 1, 4, none⟩ = some (.int .i64 0) := B2.cell 4
  have y0 : W1.frozen? ⟨w.heap.size + 1, 0, none⟩ = false := B2.free 0
  have y1 : W1.frozen? ⟨w.heap.size + 1, 1, none⟩ = false := B2.free 1
  have y2 : W1.frozen? ⟨w.heap.size + 1, 2, none⟩ = false := B2.free 2
  have y3 : W1.frozen? ⟨w.heap.size + 1, 3, none⟩ = false := B2.free 3
  have y4 : W1.frozen? ⟨w.heap.size + 1, 4, none⟩ = false := B2.free 4
  clear B1 B2
  go_wp2
  refine bodyPost_ret (v := .agg #[.string (felS x t).Id, .int .i64 (felS x t).Trees, .int .i64 (felS x t).Height, .int .i64 (felS x t).Cover, .int .i64 (felS x t).Gap]) (by simp [results, Try.results71, go_sem, d0, d1, d2, d3, d4, felS]) rfl ⟨rfl, ?_⟩
  exact (by repeat (first | (with_reducible assumption) | (with_reducible exact Below.refl _ _) | (with_reducible refine Bel.alloc ?_ _) | (with_reducible refine Below.drew ?_) | (with_reducible refine Bel.drewN ?_ _) | (with_reducible refine Bel.setCell ?_ (by (try simp) <;> omega) _) | (with_reducible refine Bel.trans ?_ (by assumption))))
theorem l10Fell_0 (x : SStand) (t : Int) (w : World) (h0 : ¬ 0 < t) :
    Calls Try.prog 71 #[.agg #[.string x.Id, .int .i64 x.Trees, .int .i64 x.Height, .int .i64 x.Cover, .int .i64 x.Gap], .int .i64 t] w fun e w' => e = .returned (.agg #[.string x.Id, .int .i64 x.Trees, .int .i64 x.Height, .int .i64 x.Cover, .int .i64 x.Gap]) ∧ Below w.heap.size w w' := by
  have hd : decide (0 < t) = false := decide_eq_false h0
  go_enter Try.func71, Try.ntmps71
  go_wp2
  refine bodyPost_ret (v := .agg #[.string x.Id, .int .i64 x.Trees, .int .i64 x.Height, .int .i64 x.Cover, .int .i64 x.Gap]) (by simp [results, Try.results71, go_sem]) rfl ⟨rfl, ?_⟩
  exact (by repeat (first | (with_reducible assumption) | (with_reducible exact Below.refl _ _) | (with_reducible refine Bel.alloc ?_ _) | (with_reducible refine Below.drew ?_) | (with_reducible refine Bel.drewN ?_ _) | (with_reducible refine Bel.setCell ?_ (by (try simp) <;> omega) _) | (with_reducible refine Bel.trans ?_ (by assumption))))
theorem l10Fell_any (x : SStand) (t : Int) (w : World) (hx : bdStand x) (h1 : t ≤ x.Trees) :
    Calls Try.prog 71 #[.agg #[.string x.Id, .int .i64 x.Trees, .int .i64 x.Height, .int .i64 x.Cover, .int .i64 x.Gap], .int .i64 t] w fun e w' => e = .returned (.agg #[.string (fel x t).Id, .int .i64 (fel x t).Trees, .int .i64 (fel x t).Height, .int .i64 (fel x t).Cover, .int .i64 (fel x t).Gap]) ∧ Below w.heap.size w w' := by
  by_cases h0 : 0 < t
  · rw [fel_pos h0]; exact l10Fell_pos x t w hx h0 h1
  · rw [fel_0 h0]; exact l10Fell_0 x t w h0
theorem MostFelled_any (x : SStand) (snow least : Int) (w : World) (hs : x.Id.size ≤ 9223372036854775807) :
    Calls Try.prog 28 #[.agg #[.string x.Id, .int .i64 x.Trees, .int .i64 x.Height, .int .i64 x.Cover, .int .i64 x.Gap], .int .i64 snow, .int .i64 least] w fun e w' => e = .returned (.tuple #[.int .i64 (mostFelled x snow least).1, .int .i64 (mostFelled x snow least).2]) ∧ Below w.heap.size w w' := by
  cases hv : okStand x
  · rw [mostFelled_1 hv]
    have HV := Lib.hid hv
    clear hv
    go_enter Try.func28, Try.ntmps28
    go_wp2_with fail
    refine calls_box_out ?_
    intro W hbw B1
    refine (Calls.boolIs HV.out (validStand_any x _ hs)).mono ?_; rintro e w1 ⟨rfl, hb1⟩
    have hbw := Bel.trans hbw hb1
    clear B1 hb1
    go_wp2
    go_ret2
    exact ⟨rfl, (by repeat (first | (with_reducible assumption) | (with_reducible exact Below.refl _ _) | (with_reducible refine Bel.alloc ?_ _) | (with_reducible refine Below.drew ?_) | (with_reducible refine Bel.drewN ?_ _) | (with_reducible refine Bel.setCell ?_ (by (try simp) <;> omega) _) | (with_reducible refine Bel.trans ?_ (by assumption))))⟩
  cases hy : (inr 0 2000 snow && inr 0 1000 least)
  · rw [mostFelled_2 hv hy]
    have HV := Lib.hid hv
    have HY := Lib.hid hy
    clear hv hy
    go_enter Try.func28, Try.ntmps28
    go_wp2_with fail
    refine calls_box_out ?_
    intro W hbw B1
    refine (Calls.boolIs HV.out (validStand_any x _ hs)).mono ?_; rintro e w1 ⟨rfl, hb1⟩
    have hbw := Bel.trans hbw hb1
    clear B1 hb1
    go_wp2_with (go_at_call 74; refine (Calls.boolIs HY.out (protectOk_any _ _ _)).mono ?_; rintro e w' ⟨rfl, rfl⟩); go_ret2; exact ⟨rfl, (by repeat (first | (with_reducible assumption) | (with_reducible exact Below.refl _ _) | (with_reducible refine Bel.alloc ?_ _) | (with_reducible refine Below.drew ?_) | (with_reducible refine Bel.drewN ?_ _) | (with_reducible refine Bel.setCell ?_ (by (try simp) <;> omega) _) | (with_reducible refine Bel.trans ?_ (by assumption))))⟩
  obtain ⟨hy0, hy1⟩ : inr 0 2000 snow = true ∧ inr 0 1000 least = true := by simpa using hy
  obtain ⟨hs0, hs1⟩ := inr_bd hy0
  have hbd : bdStand x := okStand_bd hv
  have htr : 0 ≤ x.Trees ∧ x.Trees ≤ 2000 := ⟨hbd.1, hbd.2.1⟩
  have HV := Lib.hid hv
  have HY := Lib.hid hy
  have HY0 := Lib.hid hy0
  have HY1 := Lib.hid hy1
  have HB := Lib.hid hbd
  generalize hR : mostFelled x snow least = R
  have HR := Lib.hid hR
  clear hv hy hbd hy0 hy1 hR
  obtain ⟨p, hp⟩ : ∃ p, prot x snow = p := ⟨_, rfl⟩
  have HP := Lib.hid hp
  clear hp
  go_enter Try.func28, Try.ntmps28
  go_wp2_with fail
  refine calls_box_out ?_
  intro W hbw B1
  refine (Calls.boolIs HV.out (validStand_any x _ hs)).mono ?_; rintro e w1 ⟨rfl, hb1⟩
  have hbw := Bel.trans hbw hb1
  have B1 := B1.below hb1
  clear hb1
  have c0 : w1.cell? ⟨w.heap.size, 0, none⟩ = some (.string x.Id) := B1.cell 0
  have c1 : w1.cell? ⟨w.heap.size, 1, none⟩ = some (.int .i64 x.Trees) := B1.cell 1
  have c2 : w1.cell? ⟨w.heap.size, 2, none⟩ = some (.int .i64 x.Height) := B1.cell 2
  have c3 : w1.cell? ⟨w.heap.size, 3, none⟩ = some (.int .i64 x.Cover) := B1.cell 3
  have c4 : w1.cell? ⟨w.heap.size, 4, none⟩ = some (.int .i64 x.Gap) := B1.cell 4
  go_wp2_with (go_at_call 74; refine (Calls.boolIs HY.out (protectOk_any _ _ _)).mono ?_; rintro e w' ⟨rfl, rfl⟩)
  refine (Calls.intIs HP.out (protection_any x snow _ HB.out (by omega) (by omega))).mono ?_
  rintro e w2 ⟨rfl, hb2⟩
  have hbw := Bel.trans hbw hb2
  clear c0 c1 c2 c3 c4
  by_cases hp : p < least
  · clear B1 hb2
    go_wp2
    go_ret2
    exact ⟨by rw [← HR.out, mostFelled_4 HV.out HY.out (by rw [HP.out]; exact hp)]; rfl, hbw⟩
  have B1 := B1.below hb2
  have c0 : w2.cell? ⟨w.heap.size, 0, none⟩ = some (.string x.Id) := B1.cell 0
  have c1 : w2.cell? ⟨w.heap.size, 1, none⟩ = some (.int .i64 x.Trees) := B1.cell 1
  have c2 : w2.cell? ⟨w.heap.size, 2, none⟩ = some (.int .i64 x.Height) := B1.cell 2
  have c3 : w2.cell? ⟨w.heap.size, 3, none⟩ = some (.int .i64 x.Cover) := B1.cell 3
  have c4 : w2.cell? ⟨w.heap.size, 4, none⟩ = some (.int .i64 x.Gap) := B1.cell 4
  go_wp2_with fail
  go_loopw [8] (fun t wr => ∃ k : Nat, (k : Int) ≤ x.Trees ∧ t = .int .i64 (x.Trees - k) ∧ Box 39 wr w.heap.size #[.string x.Id, .int .i64 x.Trees, .int .i64 x.Height, .int .i64 x.Cover, .int .i64 x.Gap] ∧ Below w.heap.size w wr ∧ ∀ j, j < k → mfP x snow least j = false) (fun t wr => (intOf t).toNat)
  case atStart => exact ⟨0, by omega, by go_num, B1, hbw, fun j hj => absurd hj (Nat.not_lt_zero j)⟩
  case round =>
    clear c0 c1 c2 c3 c4 B1 hb2
    obtain ⟨k, hk, rfl, B1, hbel, hall⟩ := hrel
    have HA := Lib.hid hall
    clear hall
    by_cases hlt : (k : Int) < x.Trees
    · have c0 : wr.cell? ⟨w.heap.size, 0, none⟩ = some (.string x.Id) := B1.cell 0
      have c1 : wr.cell? ⟨w.heap.size, 1, none⟩ = some (.int .i64 x.Trees) := B1.cell 1
      have c2 : wr.cell? ⟨w.heap.size, 2, none⟩ = some (.int .i64 x.Height) := B1.cell 2
      have c3 : wr.cell? ⟨w.heap.size, 3, none⟩ = some (.int .i64 x.Cover) := B1.cell 3
      have c4 : wr.cell? ⟨w.heap.size, 4, none⟩ = some (.int .i64 x.Gap) := B1.cell 4
      have HB1 := Lib.hid B1
      clear B1
      obtain ⟨q, hq⟩ : ∃ q, prot (felS x (x.Trees - k)) snow = q := ⟨_, rfl⟩
      have HQ := Lib.hid hq
      clear hq
      have hfb := bd_fel HB.out (t := x.Trees - k) (by omega) (by omega)
      rw [fel_pos (by omega)] at hfb
      have HF := Lib.hid hfb
      clear hfb
      have hg : decide (0 < x.Trees - (k : Int)) = true := decide_eq_true (by omega)
      by_cases hp' : q < least
      · have HN : Hid (mfP x snow least k = false) := by
          show mfP x snow least k = false
          rw [mfP, fel_pos (by omega), HQ.out]; exact decide_eq_false (by omega)
        go_wp2_with fail
        refine (felled_any x (x.Trees - k) _ HB.out (by omega) (by omega)).mono ?_
        rintro e w3 ⟨rfl, hb3⟩
        clear c0 c1 c2 c3 c4
        go_wp2_with fail
        refine (Calls.intIs HQ.out (protection_any (felS x (x.Trees - k)) snow _ HF.out (by omega) (by omega))).mono ?_
        rintro e w4 ⟨rfl, hb4⟩
        have hbt := Bel.trans (Bel.trans hbel hb3) hb4
        go_wp2
        go_roundw
        case rel => exact ⟨k + 1, by omega, by go_num, (HB1.out.below hb3).below hb4, hbt, upto_snoc HA.out HN.out⟩
        case measure => simp [intOf]; omega
      · have HN : Hid (mfP x snow least k = true) := by
          show mfP x snow least k = true
          rw [mfP, fel_pos (by omega), HQ.out]; exact decide_eq_true (by omega)
        go_wp2_with fail
        refine (felled_any x (x.Trees - k) _ HB.out (by omega) (by omega)).mono ?_
        rintro e w3 ⟨rfl, hb3⟩
        clear c0 c1 c2 c3 c4
        go_wp2_with fail
        refine (Calls.intIs HQ.out (protection_any (felS x (x.Trees - k)) snow _ HF.out (by omega) (by omega))).mono ?_
        rintro e w4 ⟨rfl, hb4⟩
        have hbt := Bel.trans (Bel.trans hbel hb3) hb4
        go_wp2
        go_ret2
        exact ⟨by rw [← HR.out, mostFelled_0 HV.out HY.out (by omega) HA.out HN.out]; rfl, hbt⟩
    · have hkx : (k : Int) = x.Trees := by omega
      have HK := Lib.hid hkx
      have HN : Hid (mfP x snow least k = true) := by
        show mfP x snow least k = true
        rw [mfP, fel_0 (by omega), HP.out]; exact decide_eq_true (by omega)
      have hg : decide (0 < x.Trees - (k : Int)) = false := decide_eq_false (by omega)
      clear hkx B1
      go_wp2
      go_ret2
      exact ⟨by rw [← HR.out, mostFelled_0 HV.out HY.out (by omega) HA.out HN.out]; rfl, hbel⟩
theorem sMostFelled_any (x : SStand) (snow least : Int) (w : World) (hs : x.Id.size ≤ 9223372036854775807) :
    Calls Try.prog 26 #[.agg #[.string x.Id, .int .i64 x.Trees, .int .i64 x.Height, .int .i64 x.Cover, .int .i64 x.Gap], .int .i64 snow, .int .i64 least] w fun e w' => e = .returned (.tuple #[.int .i64 (mostFelled x snow least).1, .int .i64 (mostFelled x snow least).2]) ∧ Below w.heap.size w w' := by
  cases hv : okStand x
  · rw [mostFelled_1 hv]
    have HV := Lib.hid hv
    clear hv
    go_enter Try.func26, Try.ntmps26
    go_wp2_with fail
    refine calls_box_out ?_
    intro W hbw B1
    refine (Calls.boolIs HV.out (l10One_any x w.heap.size 0 W (B1.cell 0) (B1.cell 1) (B1.cell 2) (B1.cell 3) (B1.cell 4) hs)).mono ?_; rintro e w1 ⟨rfl, hw1⟩; have hb1 : Below W.heap.size W w1 := hw1 ▸ Below.refl _ _; clear hw1
    have hbw := Bel.trans hbw hb1
    clear B1 hb1
    go_wp2
    go_ret2
    exact ⟨rfl, (by repeat (first | (with_reducible assumption) | (with_reducible exact Below.refl _ _) | (with_reducible refine Bel.alloc ?_ _) | (with_reducible refine Below.drew ?_) | (with_reducible refine Bel.drewN ?_ _) | (with_reducible refine Bel.setCell ?_ (by (try simp) <;> omega) _) | (with_reducible refine Bel.trans ?_ (by assumption))))⟩
  cases hy : (inr 0 2000 snow && inr 0 1000 least)
  · rw [mostFelled_2 hv hy]
    have HV := Lib.hid hv
    have HY := Lib.hid hy
    clear hv hy
    go_enter Try.func26, Try.ntmps26
    go_wp2_with fail
    refine calls_box_out ?_
    intro W hbw B1
    refine (Calls.boolIs HV.out (l10One_any x w.heap.size 0 W (B1.cell 0) (B1.cell 1) (B1.cell 2) (B1.cell 3) (B1.cell 4) hs)).mono ?_; rintro e w1 ⟨rfl, hw1⟩; have hb1 : Below W.heap.size W w1 := hw1 ▸ Below.refl _ _; clear hw1
    have hbw := Bel.trans hbw hb1
    clear B1 hb1
    cases hz : inr 0 2000 snow; (have HZ := Lib.hid hz; clear hz; go_wp2_with (go_at_call 69; refine (Calls.boolIs HZ.out (l10Snow_any _ _)).mono ?_; rintro e w' ⟨rfl, rfl⟩); go_ret2; exact ⟨rfl, (by repeat (first | (with_reducible assumption) | (with_reducible exact Below.refl _ _) | (with_reducible refine Bel.alloc ?_ _) | (with_reducible refine Below.drew ?_) | (with_reducible refine Bel.drewN ?_ _) | (with_reducible refine Bel.setCell ?_ (by (try simp) <;> omega) _) | (with_reducible refine Bel.trans ?_ (by assumption))))⟩); (have hl : inr 0 1000 least = false := by (have := HY.out; rw [hz] at this; simpa using this)); (have HZ := Lib.hid hz; have HL := Lib.hid hl; clear hz hl; go_wp2_with (first | (go_at_call 69; refine (Calls.boolIs HZ.out (l10Snow_any _ _)).mono ?_; rintro e w' ⟨rfl, rfl⟩) | (go_at_call 70; refine (Calls.boolIs HL.out (l10Least_any _ _)).mono ?_; rintro e w' ⟨rfl, rfl⟩)); go_ret2; exact ⟨rfl, (by repeat (first | (with_reducible assumption) | (with_reducible exact Below.refl _ _) | (with_reducible refine Bel.alloc ?_ _) | (with_reducible refine Below.drew ?_) | (with_reducible refine Bel.drewN ?_ _) | (with_reducible refine Bel.setCell ?_ (by (try simp) <;> omega) _) | (with_reducible refine Bel.trans ?_ (by assumption))))⟩)
  obtain ⟨hy0, hy1⟩ : inr 0 2000 snow = true ∧ inr 0 1000 least = true := by simpa using hy
  obtain ⟨hs0, hs1⟩ := inr_bd hy0
  have hbd : bdStand x := okStand_bd hv
  have htr : 0 ≤ x.Trees ∧ x.Trees ≤ 2000 := ⟨hbd.1, hbd.2.1⟩
  have HV := Lib.hid hv
  have HY := Lib.hid hy
  have HY0 := Lib.hid hy0
  have HY1 := Lib.hid hy1
  have HB := Lib.hid hbd
  generalize hR : mostFelled x snow least = R
  have HR := Lib.hid hR
  clear hv hy hbd hy0 hy1 hR
  obtain ⟨p, hp⟩ : ∃ p, prot x snow = p := ⟨_, rfl⟩
  have HP := Lib.hid hp
  clear hp
  go_enter Try.func26, Try.ntmps26
  go_wp2_with fail
  refine calls_box_out ?_
  intro W hbw B1
  refine (Calls.boolIs HV.out (l10One_any x w.heap.size 0 W (B1.cell 0) (B1.cell 1) (B1.cell 2) (B1.cell 3) (B1.cell 4) hs)).mono ?_; rintro e w1 ⟨rfl, hw1⟩; have hb1 : Below W.heap.size W w1 := hw1 ▸ Below.refl _ _; clear hw1
  have hbw := Bel.trans hbw hb1
  have B1 := B1.below hb1
  clear hb1
  have c0 : w1.cell? ⟨w.heap.size, 0, none⟩ = some (.string x.Id) := B1.cell 0
  have c1 : w1.cell? ⟨w.heap.size, 1, none⟩ = some (.int .i64 x.Trees) := B1.cell 1
  have c2 : w1.cell? ⟨w.heap.size, 2, none⟩ = some (.int .i64 x.Height) := B1.cell 2
  have c3 : w1.cell? ⟨w.heap.size, 3, none⟩ = some (.int .i64 x.Cover) := B1.cell 3
  have c4 : w1.cell? ⟨w.heap.size, 4, none⟩ = some (.int .i64 x.Gap) := B1.cell 4
  go_wp2_with fail
  refine (Calls.boolIs HY0.out (l10Snow_any _ _)).mono ?_
  rintro e w' ⟨rfl, rfl⟩
  go_wp2_with fail
  refine (Calls.boolIs HY1.out (l10Least_any _ _)).mono ?_
  rintro e w' ⟨rfl, rfl⟩
  go_wp2_with fail
  go_loopw [8] (fun t wr => ∃ k : Nat, (k : Int) ≤ x.Trees + 1 ∧ t = .int .i64 (x.Trees - k) ∧ Box 39 wr w.heap.size #[.string x.Id, .int .i64 x.Trees, .int .i64 x.Height, .int .i64 x.Cover, .int .i64 x.Gap] ∧ Below w.heap.size w wr ∧ ∀ j, j < k → mfP x snow least j = false) (fun t wr => (intOf t + 1).toNat)
  case atStart => exact ⟨0, by omega, by go_num, B1, hbw, fun j hj => absurd hj (Nat.not_lt_zero j)⟩
  case round =>
    clear c0 c1 c2 c3 c4 B1
    obtain ⟨k, hk, rfl, B1, hbel, hall⟩ := hrel
    have HA := Lib.hid hall
    clear hall
    by_cases hlt : (k : Int) ≤ x.Trees
    · have c0 : wr.cell? ⟨w.heap.size, 0, none⟩ = some (.string x.Id) := B1.cell 0
      have c1 : wr.cell? ⟨w.heap.size, 1, none⟩ = some (.int .i64 x.Trees) := B1.cell 1
      have c2 : wr.cell? ⟨w.heap.size, 2, none⟩ = some (.int .i64 x.Height) := B1.cell 2
      have c3 : wr.cell? ⟨w.heap.size, 3, none⟩ = some (.int .i64 x.Cover) := B1.cell 3
      have c4 : wr.cell? ⟨w.heap.size, 4, none⟩ = some (.int .i64 x.Gap) := B1.cell 4
      have HB1 := Lib.hid B1
      clear B1
      obtain ⟨q, hq⟩ : ∃ q, prot (fel x (x.Trees - k)) snow = q := ⟨_, rfl⟩
      have HQ := Lib.hid hq
      clear hq
      have hfb := bd_fel HB.out (t := x.Trees - k) (by omega) (by omega)
      have HF := Lib.hid hfb
      clear hfb
      obtain ⟨y, hy⟩ : ∃ y, fel x (x.Trees - k) = y := ⟨_, rfl⟩
      have hfl := l10Fell_any x (x.Trees - k) wr HB.out (by omega)
      rw [hy] at hfl HQ HF
      have HL := Lib.hid hfl
      have HYY := Lib.hid hy
      clear hfl hy
      by_cases hp' : q < least
      · have HN : Hid (mfP x snow least k = false) := by
          show mfP x snow least k = false
          rw [mfP, HYY.out, HQ.out]; exact decide_eq_false (by omega)
        go_wp2_with fail
        refine HL.out.mono ?_
        rintro e w3 ⟨rfl, hb3⟩
        clear c0 c1 c2 c3 c4
        go_wp2_with fail
        refine calls_box_out ?_
        intro W4 hb4 B4
        refine (Calls.intIs HQ.out (l10Protection_any y w3.heap.size 0 snow _ (B4.cell 0) (B4.cell 1) (B4.cell 2) (B4.cell 3) (B4.cell 4) HF.out (by omega) (by omega))).mono ?_
        rintro e w5 ⟨rfl, hb5⟩
        have hbt := Bel.trans (Bel.trans (Bel.trans hbel hb3) hb4) hb5
        clear B4
        go_wp2
        go_roundw
        case rel => exact ⟨k + 1, by omega, by go_num, ((HB1.out.below hb3).below hb4).below hb5, hbt, upto_snoc HA.out HN.out⟩
        case measure => simp [intOf]; omega
      · have HN : Hid (mfP x snow least k = true) := by
          show mfP x snow least k = true
          rw [mfP, HYY.out, HQ.out]; exact decide_eq_true (by omega)
        go_wp2_with fail
        refine HL.out.mono ?_
        rintro e w3 ⟨rfl, hb3⟩
        clear c0 c1 c2 c3 c4
        go_wp2_with fail
        refine calls_box_out ?_
        intro W4 hb4 B4
        refine (Calls.intIs HQ.out (l10Protection_any y w3.heap.size 0 snow _ (B4.cell 0) (B4.cell 1) (B4.cell 2) (B4.cell 3) (B4.cell 4) HF.out (by omega) (by omega))).mono ?_
        rintro e w5 ⟨rfl, hb5⟩
        have hbt := Bel.trans (Bel.trans (Bel.trans hbel hb3) hb4) hb5
        clear B4
        go_wp2
        go_ret2
        exact ⟨by rw [← HR.out, mostFelled_0 HV.out HY.out (by omega) HA.out HN.out]; rfl, hbt⟩
    · clear B1
      go_wp2
      go_ret2
      exact ⟨by rw [← HR.out, mostFelled_3 HV.out HY.out (fun j hj => HA.out j (by omega))]; rfl, hbel⟩
end Go.Proofs.Ytamolhhccfnlfaa
