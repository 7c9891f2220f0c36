/- Chapter 10: what the drawing functions of the forest hand back (a stand, numbers in bounds), and that they change their source alone. -/
import Derived.Test.YtcjalooaikfkbaaSrc
import Derived.Test.YtcjalooaikfkbaaL10w
namespace Go.Proofs.Ytcjalooaikfkbaa
set_option linter.unusedSimpArgs false
set_option linter.unusedVariables false
open Go.RowKit
set_option maxHeartbeats 800000
theorem from_any {w : World} {base : Nat} (A : Option Addr) (n c : Nat) (hb : base ≤ w.heap.size) (hn : n ≤ 1048576) (hnc : n ≤ c) (hc : c ≤ 9223372036854775807)
    (hrow : ∀ i, i < n → ∃ b o v, A = some (⟨b, o, none⟩ : Addr) ∧ b < base ∧ w.cell? ⟨b, o + i, none⟩ = some (.int .u8 v) ∧ 0 ≤ v ∧ v ≤ 255) :
    Calls Try.prog 36 #[.slice A n c] w fun e w' => e = .returned (.pointer (some ⟨w.heap.size, 0, none⟩)) ∧ Src w' base w.heap.size 0 ∧ Below w.heap.size w w' := by
  go_enter Try.func36, Try.ntmps36
  go_wp2
  go_ret
  refine ⟨rfl, ⟨hb, A, n, c, 0, 0, Box.new _ _ _, by omega, hn, hnc, hc, by omega, by omega, fun i hi => ?_⟩, (by repeat (first | (with_reducible assumption) | (with_reducible exact Below.refl _ _) | (with_reducible refine Bel.alloc ?_ _) | (with_reducible refine Below.drew ?_) | (with_reducible refine Bel.drewN ?_ _) | (with_reducible refine Bel.setCell ?_ (by (try simp) <;> omega) _) | (with_reducible refine Bel.trans ?_ (by assumption))))⟩
  obtain ⟨b, o, v, e, h1, h2, h3, h4⟩ := hrow i hi
  have hb1 := Bel.alloc (Below.refl w.heap.size w) (.cells #[.slice A n c, .int .i64 0, .int .u64 0] 99)
  exact ⟨b, o, v, e, h1, Nat.lt_of_lt_of_le (by omega) hb1.size, (hb1.cell (p := ⟨b, o + i, none⟩) (Nat.lt_of_lt_of_le h1 hb)).trans h2, h3, h4⟩
theorem l10DrawOne_any {w : World} {base g m : Nat} (id : ByteArray) (S : Src w base g m) (hm : m ≤ 10000000000) (hb : base ≤ w.heap.size) :
    Calls Try.prog 38 #[.pointer (some ⟨g, 0, none⟩), .string id] w fun e w' => (∃ x : SStand, e = .returned (.agg #[.string x.Id, .int .i64 x.Trees, .int .i64 x.Height, .int .i64 x.Cover, .int .i64 x.Gap]) ∧ x.Id = id ∧ -1 ≤ x.Height ∧ x.Height ≤ 5001) ∧ Src w' base g (m + 8) ∧ w.grownBy w' (some g) := by
  have hgl := S.lt
  go_enter Try.func38, Try.ntmps38
  go_wp2_with fail
  refine calls_box_out ?_
  intro W hbw B1
  refine (pick_any 60 (S.below hbw) (by omega) (by omega)).mono ?_
  rintro e w1 ⟨⟨r, rfl, r0, r1⟩, S1, G1⟩
  have r2 : r < 60 := by omega
  clear r1
  have B1 := B1.grown G1 (by omega)
  have G1 := (Grown.bel hbw).trans G1
  go_wp2_with fail
  refine (pick_any 60 S1 (by omega) (by omega)).mono ?_
  rintro e w2 ⟨⟨q, rfl, q0, q1⟩, S2, G2⟩
  have q2 : q < 60 := by omega
  clear q1
  have B1 := B1.grown G2 (by omega)
  have G2 := G1.trans G2
  have hl2 := B1.lt
  have hgl2 := S2.lt
  clear S1 G1
  go_wp2_with fail
  refine calls_box_out ?_
  intro W3 hb3 B2
  have B1 := B1.below hb3
  have G3 := only_below G2 hb3
  refine (pick_any 100 (S2.below hb3) (by omega) (by omega)).mono ?_
  rintro e w4 ⟨⟨s, rfl, s0, s1⟩, S4, G4⟩
  have s2 : s < 100 := by omega
  clear s1
  have B1 := B1.grown G4 (by omega)
  have B2 := B2.grown G4 (by omega)
  have G4 := G3.trans G4
  clear S2 G2 G3 hb3
  have c0 : w4.cell? ⟨w2.heap.size, 0, none⟩ = some (.string id) := B2.cell 0
  have c1 : w4.cell? ⟨w2.heap.size, 1, none⟩ = some (.int .i64 (20 * r)) := B2.cell 1
  have c2 : w4.cell? ⟨w2.heap.size, 2, none⟩ = some (.int .i64 (50 * q)) := B2.cell 2
  have c3 : w4.cell? ⟨w2.heap.size, 3, none⟩ = some (.int .i64 0) := B2.cell 3
  have c4 : w4.cell? ⟨w2.heap.size, 4, none⟩ = some (.int .i64 0) := B2.cell 4
  have z0 : w4.frozen? ⟨w2.heap.size, 0, none⟩ = false := B2.free 0
  have z1 : w4.frozen? ⟨w2.heap.size, 1, none⟩ = false := B2.free 1
  have z2 : w4.frozen? ⟨w2.heap.size, 2, none⟩ = false := B2.free 2
  have z3 : w4.frozen? ⟨w2.heap.size, 3, none⟩ = false := B2.free 3
  have z4 : w4.frozen? ⟨w2.heap.size, 4, none⟩ = false := B2.free 4
  go_wp2_with fail
  have S4 := S4.set ⟨w2.heap.size, 3, none⟩ (.int .i64 (10 * s)) (by simp; omega) (by simp; omega)
  have B1 := B1.far (p := ⟨w2.heap.size, 3, none⟩) (by simp; omega) (.int .i64 (10 * s))
  have B2 := B2.set 3 (.int .i64 (10 * s))
  have G4 := only_out G4 ⟨w2.heap.size, 3, none⟩ (.int .i64 (10 * s)) (by simp; omega)
  clear c0 c1 c2 c3 c4 z0 z1 z2 z3 z4
  generalize (w4.setCell ⟨w2.heap.size, 3, none⟩ (.int .i64 (10 * s))) = w5 at *
  refine (pick_any 60 S4 (by omega) (by omega)).mono ?_
  rintro e w6 ⟨⟨t, rfl, t0, t1⟩, S6, G6⟩
  have t2 : t < 60 := by omega
  clear t1
  have B1 := B1.grown G6 (by omega)
  have B2 := B2.grown G6 (by omega)
  have G6 := G4.trans G6
  have c0 : w6.cell? ⟨w2.heap.size, 0, none⟩ = some (.string id) := B2.cell 0
  have c1 : w6.cell? ⟨w2.heap.size, 1, none⟩ = some (.int .i64 (20 * r)) := B2.cell 1
  have c2 : w6.cell? ⟨w2.heap.size, 2, none⟩ = some (.int .i64 (50 * q)) := B2.cell 2
  have c3 : w6.cell? ⟨w2.heap.size, 3, none⟩ = some (.int .i64 (10 * s)) := B2.cell 3
  have c4 : w6.cell? ⟨w2.heap.size, 4, none⟩ = some (.int .i64 0) := B2.cell 4
  have z0 : w6.frozen? ⟨w2.heap.size, 0, none⟩ = false := B2.free 0
  have z1 : w6.frozen? ⟨w2.heap.size, 1, none⟩ = false := B2.free 1
  have z2 : w6.frozen? ⟨w2.heap.size, 2, none⟩ = false := B2.free 2
  have z3 : w6.frozen? ⟨w2.heap.size, 3, none⟩ = false := B2.free 3
  have z4 : w6.frozen? ⟨w2.heap.size, 4, none⟩ = false := B2.free 4
  have d0 : w6.cell? ⟨w.heap.size, 0, none⟩ = some (.string zeroStand.Id) := B1.cell 0
  have d1 : w6.cell? ⟨w.heap.size, 1, none⟩ = some (.int .i64 zeroStand.Trees) := B1.cell 1
  have d2 : w6.cell? ⟨w.heap.size, 2, none⟩ = some (.int .i64 zeroStand.Height) := B1.cell 2
  have d3 : w6.cell? ⟨w.heap.size, 3, none⟩ = some (.int .i64 zeroStand.Cover) := B1.cell 3
  have d4 : w6.cell? ⟨w.heap.size, 4, none⟩ = some (.int .i64 zeroStand.Gap) := B1.cell 4
  have y0 : w6.frozen? ⟨w.heap.size, 0, none⟩ = false := B1.free 0
  have y1 : w6.frozen? ⟨w.heap.size, 1, none⟩ = false := B1.free 1
  have y2 : w6.frozen? ⟨w.heap.size, 2, none⟩ = false := B1.free 2
  have y3 : w6.frozen? ⟨w.heap.size, 3, none⟩ = false := B1.free 3
  have y4 : w6.frozen? ⟨w.heap.size, 4, none⟩ = false := B1.free 4
  have hne : w.heap.size ≠ w2.heap.size := by omega
  clear S4 G4 B1 B2
  have S6 := S6.up (m' := m + 8) (by omega)
  go_wp2
  refine bodyPost_ret (v := .agg #[.string id, .int .i64 (20 * r), .int .i64 (50 * q), .int .i64 (10 * s), .int .i64 t]) (by simp [results, Try.results38, go_sem, d0, d1, d2, d3, d4, hne]) rfl ?_
  refine ⟨⟨⟨id, 20 * r, 50 * q, 10 * s, t⟩, rfl, rfl, by simp; omega, by simp; omega⟩, (by repeat (first | (with_reducible assumption) | (with_reducible refine Src.set ?_ _ _ (by (try simp) <;> omega) (by (try simp) <;> omega)) | (refine Src.below ?_ (Bel.alloc (Below.refl _ _) _)))), (by repeat (first | (with_reducible assumption) | (with_reducible refine only_out ?_ _ _ (by (try simp) <;> omega)) | (refine only_below ?_ (Bel.alloc (Below.refl _ _) _))))⟩
theorem l10Bend_any {w : World} {base g m : Nat} (x : SStand) (S : Src w base g m) (hm : m ≤ 10000000000) (hb : base ≤ w.heap.size) (hx0 : -1 ≤ x.Height) (hx1 : x.Height ≤ 5001) :
    Calls Try.prog 37 #[.pointer (some ⟨g, 0, none⟩), .agg #[.string x.Id, .int .i64 x.Trees, .int .i64 x.Height, .int .i64 x.Cover, .int .i64 x.Gap]] w fun e w' => (∃ y : SStand, e = .returned (.agg #[.string y.Id, .int .i64 y.Trees, .int .i64 y.Height, .int .i64 y.Cover, .int .i64 y.Gap]) ∧ y.Id = x.Id ∧ -1 ≤ y.Height ∧ y.Height ≤ 5001) ∧ Src w' base g (m + 4) ∧ w.grownBy w' (some g) := by
  have hgl := S.lt
  go_enter Try.func37, Try.ntmps37
  go_wp2_with fail
  refine calls_box_out2 ?_
  intro W hbw B1 B2
  refine (pick_any 18 (S.below hbw) (by omega) (by omega)).mono ?_
  rintro e w1 ⟨⟨r, rfl, r0, r1⟩, S1, G1⟩
  have r2 : r < 18 := by omega
  clear r1
  have B1 := B1.grown G1 (by omega)
  have B2 := B2.grown G1 (by omega)
  have G1 := (Grown.bel hbw).trans G1
  clear S hbw
  by_cases e0 : r = 0
  · subst e0
    go_wp2_with fail
    refine calls_box_out ?_
    intro W3 hb3 B3
    have B1 := B1.below hb3
    have B2 := B2.below hb3
    have G2 := only_below G1 hb3
    have hl1 := B2.lt
    have hgl1 := S1.lt
    refine (among_any [-1, 0, 2000, 2001] w1.heap.size 4 (S1.below hb3) (by omega) (by decide) (by decide) B3 (by omega)).mono ?_
    rintro e w4 ⟨⟨q, rfl, hq⟩, S4, G4⟩
    have B1 := B1.grown G4 (by omega)
    have B2 := B2.grown G4 (by omega)
    have G4 := G2.trans G4
    clear S1 G1 G2 hb3 B3
    simp only [List.mem_cons, List.not_mem_nil, or_false] at hq
    have c0 : w4.cell? ⟨w.heap.size, 0, none⟩ = some (.string x.Id) := B1.cell 0
    have c1 : w4.cell? ⟨w.heap.size, 1, none⟩ = some (.int .i64 x.Trees) := B1.cell 1
    have c2 : w4.cell? ⟨w.heap.size, 2, none⟩ = some (.int .i64 x.Height) := B1.cell 2
    have c3 : w4.cell? ⟨w.heap.size, 3, none⟩ = some (.int .i64 x.Cover) := B1.cell 3
    have c4 : w4.cell? ⟨w.heap.size, 4, none⟩ = some (.int .i64 x.Gap) := B1.cell 4
    have z0 : w4.frozen? ⟨w.heap.size, 0, none⟩ = false := B1.free 0
    have z1 : w4.frozen? ⟨w.heap.size, 1, none⟩ = false := B1.free 1
    have z2 : w4.frozen? ⟨w.heap.size, 2, none⟩ = false := B1.free 2
    have z3 : w4.frozen? ⟨w.heap.size, 3, none⟩ = false := B1.free 3
    have z4 : w4.frozen? ⟨w.heap.size, 4, none⟩ = false := B1.free 4
    have d0 : w4.cell? ⟨w.heap.size + 1, 0, none⟩ = some (.string zeroStand.Id) := B2.cell 0
    have d1 : w4.cell? ⟨w.heap.size + 1, 1, none⟩ = some (.int .i64 zeroStand.Trees) := B2.cell 1
    have d2 : w4.cell? ⟨w.heap.size + 1, 2, none⟩ = some (.int .i64 zeroStand.Height) := B2.cell 2
    have d3 : w4.cell? ⟨w.heap.size + 1, 3, none⟩ = some (.int .i64 zeroStand.Cover) := B2.cell 3
    have d4 : w4.cell? ⟨w.heap.size + 1, 4, none⟩ = some (.int .i64 zeroStand.Gap) := B2.cell 4
    have y0 : w4.frozen? ⟨w.heap.size + 1, 0, none⟩ = false := B2.free 0
    have y1 : w4.frozen? ⟨w.heap.size + 1, 1, none⟩ = false := B2.free 1
    have y2 : w4.frozen? ⟨w.heap.size + 1, 2, none⟩ = false := B2.free 2
    have y3 : w4.frozen? ⟨w.heap.size + 1, 3, none⟩ = false := B2.free 3
    have y4 : w4.frozen? ⟨w.heap.size + 1, 4, none⟩ = false := B2.free 4
    clear B1 B2
    have S9 := S4.up (m' := m + 4) (by omega)
    clear S4
    go_wp2
    refine bodyPost_ret (v := .agg #[.string x.Id, .int .i64 q, .int .i64 x.Height, .int .i64 x.Cover, .int .i64 x.Gap]) (by simp [results, Try.results37, go_sem, d0, d1, d2, d3, d4]) rfl ?_
    exact ⟨⟨⟨x.Id, q, x.Height, x.Cover, x.Gap⟩, rfl, rfl, hx0, hx1⟩, (by repeat (first | (with_reducible assumption) | (with_reducible refine Src.set ?_ _ _ (by (try simp) <;> omega) (by (try simp) <;> omega)) | (refine Src.below ?_ (Bel.alloc (Below.refl _ _) _)))), (by repeat (first | (with_reducible assumption) | (with_reducible refine only_out ?_ _ _ (by (try simp) <;> omega)) | (refine only_below ?_ (Bel.alloc (Below.refl _ _) _))))⟩
  by_cases e1 : r = 1
  · subst e1
    go_wp2_with fail
    refine calls_box_out ?_
    intro W3 hb3 B3
    have B1 := B1.below hb3
    have B2 := B2.below hb3
    have G2 := only_below G1 hb3
    have hl1 := B2.lt
    have hgl1 := S1.lt
    refine (among_any [-1, 0, 5000, 5001] w1.heap.size 4 (S1.below hb3) (by omega) (by decide) (by decide) B3 (by omega)).mono ?_
    rintro e w4 ⟨⟨q, rfl, hq⟩, S4, G4⟩
    have B1 := B1.grown G4 (by omega)
    have B2 := B2.grown G4 (by omega)
    have G4 := G2.trans G4
    clear S1 G1 G2 hb3 B3
    simp only [List.mem_cons, List.not_mem_nil, or_false] at hq
    have c0 : w4.cell? ⟨w.heap.size, 0, none⟩ = some (.string x.Id) := B1.cell 0
    have c1 : w4.cell? ⟨w.heap.size, 1, none⟩ = some (.int .i64 x.Trees) := B1.cell 1
    have c2 : w4.cell? ⟨w.heap.size, 2, none⟩ = some (.int .i64 x.Height) := B1.cell 2
    have c3 : w4.cell? ⟨w.heap.size, 3, none⟩ = some (.int .i64 x.Cover) := B1.cell 3
    have c4 : w4.cell? ⟨w.heap.size, 4, none⟩ = some (.int .i64 x.Gap) := B1.cell 4
    have z0 : w4.frozen? ⟨w.heap.size, 0, none⟩ = false := B1.free 0
    have z1 : w4.frozen? ⟨w.heap.size, 1, none⟩ = false := B1.free 1
    have z2 : w4.frozen? ⟨w.heap.size, 2, none⟩ = false := B1.free 2
    have z3 : w4.frozen? ⟨w.heap.size, 3, none⟩ = false := B1.free 3
    have z4 : w4.frozen? ⟨w.heap.size, 4, none⟩ = false := B1.free 4
    have d0 : w4.cell? ⟨w.heap.size + 1, 0, none⟩ = some (.string zeroStand.Id) := B2.cell 0
    have d1 : w4.cell? ⟨w.heap.size + 1, 1, none⟩ = some (.int .i64 zeroStand.Trees) := B2.cell 1
    have d2 : w4.cell? ⟨w.heap.size + 1, 2, none⟩ = some (.int .i64 zeroStand.Height) := B2.cell 2
    have d3 : w4.cell? ⟨w.heap.size + 1, 3, none⟩ = some (.int .i64 zeroStand.Cover) := B2.cell 3
    have d4 : w4.cell? ⟨w.heap.size + 1, 4, none⟩ = some (.int .i64 zeroStand.Gap) := B2.cell 4
    have y0 : w4.frozen? ⟨w.heap.size + 1, 0, none⟩ = false := B2.free 0
    have y1 : w4.frozen? ⟨w.heap.size + 1, 1, none⟩ = false := B2.free 1
    have y2 : w4.frozen? ⟨w.heap.size + 1, 2, none⟩ = false := B2.free 2
    have y3 : w4.frozen? ⟨w.heap.size + 1, 3, none⟩ = false := B2.free 3
    have y4 : w4.frozen? ⟨w.heap.size + 1, 4, none⟩ = false := B2.free 4
    clear B1 B2
    have S9 := S4.up (m' := m + 4) (by omega)
    clear S4
    go_wp2
    refine bodyPost_ret (v := .agg #[.string x.Id, .int .i64 x.Trees, .int .i64 q, .int .i64 x.Cover, .int .i64 x.Gap]) (by simp [results, Try.results37, go_sem, d0, d1, d2, d3, d4]) rfl ?_
    exact ⟨⟨⟨x.Id, x.Trees, q, x.Cover, x.Gap⟩, rfl, rfl, by simp; omega, by simp; omega⟩, (by repeat (first | (with_reducible assumption) | (with_reducible refine Src.set ?_ _ _ (by (try simp) <;> omega) (by (try simp) <;> omega)) | (refine Src.below ?_ (Bel.alloc (Below.refl _ _) _)))), (by repeat (first | (with_reducible assumption) | (with_reducible refine only_out ?_ _ _ (by (try simp) <;> omega)) | (refine only_below ?_ (Bel.alloc (Below.refl _ _) _))))⟩
  by_cases e2 : r = 2
  · subst e2
    go_wp2_with fail
    refine calls_box_out ?_
    intro W3 hb3 B3
    have B1 := B1.below hb3
    have B2 := B2.below hb3
    have G2 := only_below G1 hb3
    have hl1 := B2.lt
    have hgl1 := S1.lt
    refine (among_any [-1, 0, 1000, 1001] w1.heap.size 4 (S1.below hb3) (by omega) (by decide) (by decide) B3 (by omega)).mono ?_
    rintro e w4 ⟨⟨q, rfl, hq⟩, S4, G4⟩
    have B1 := B1.grown G4 (by omega)
    have B2 := B2.grown G4 (by omega)
    have G4 := G2.trans G4
    clear S1 G1 G2 hb3 B3
    simp only [List.mem_cons, List.not_mem_nil, or_false] at hq
    have c0 : w4.cell? ⟨w.heap.size, 0, none⟩ = some (.string x.Id) := B1.cell 0
    have c1 : w4.cell? ⟨w.heap.size, 1, none⟩ = some (.int .i64 x.Trees) := B1.cell 1
    have c2 : w4.cell? ⟨w.heap.size, 2, none⟩ = some (.int .i64 x.Height) := B1.cell 2
    have c3 : w4.cell? ⟨w.heap.size, 3, none⟩ = some (.int .i64 x.Cover) := B1.cell 3
    have c4 : w4.cell? ⟨w.heap.size, 4, none⟩ = some (.int .i64 x.Gap) := B1.cell 4
    have z0 : w4.frozen? ⟨w.heap.size, 0, none⟩ = false := B1.free 0
    have z1 : w4.frozen? ⟨w.heap.size, 1, none⟩ = false := B1.free 1
    have z2 : w4.frozen? ⟨w.heap.size, 2, none⟩ = false := B1.free 2
    have z3 : w4.frozen? ⟨w.heap.size, 3, none⟩ = false := B1.free 3
    have z4 : w4.frozen? ⟨w.heap.size, 4, none⟩ = false := B1.free 4
    have d0 : w4.cell? ⟨w.heap.size + 1, 0, none⟩ = some (.string zeroStand.Id) := B2.cell 0
    have d1 : w4.cell? ⟨w.heap.size + 1, 1, none⟩ = some (.int .i64 zeroStand.Trees) := B2.cell 1
    have d2 : w4.cell? ⟨w.heap.size + 1, 2, none⟩ = some (.int .i64 zeroStand.Height) := B2.cell 2
    have d3 : w4.cell? ⟨w.heap.size + 1, 3, none⟩ = some (.int .i64 zeroStand.Cover) := B2.cell 3
    have d4 : w4.cell? ⟨w.heap.size + 1, 4, none⟩ = some (.int .i64 zeroStand.Gap) := B2.cell 4
    have y0 : w4.frozen? ⟨w.heap.size + 1, 0, none⟩ = false := B2.free 0
    have y1 : w4.frozen? ⟨w.heap.size + 1, 1, none⟩ = false := B2.free 1
    have y2 : w4.frozen? ⟨w.heap.size + 1, 2, none⟩ = false := B2.free 2
    have y3 : w4.frozen? ⟨w.heap.size + 1, 3, none⟩ = false := B2.free 3
    have y4 : w4.frozen? ⟨w.heap.size + 1, 4, none⟩ = false := B2.free 4
    clear B1 B2
    have S9 := S4.up (m' := m + 4) (by omega)
    clear S4
    go_wp2
    refine bodyPost_ret (v := .agg #[.string x.Id, .int .i64 x.Trees, .int .i64 x.Height, .int .i64 q, .int .i64 x.Gap]) (by simp [results, Try.results37, go_sem, d0, d1, d2, d3, d4]) rfl ?_
    exact ⟨⟨⟨x.Id, x.Trees, x.Height, q, x.Gap⟩, rfl, rfl, hx0, hx1⟩, (by repeat (first | (with_reducible assumption) | (with_reducible refine Src.set ?_ _ _ (by (try simp) <;> omega) (by (try simp) <;> omega)) | (refine Src.below ?_ (Bel.alloc (Below.refl _ _) _)))), (by repeat (first | (with_reducible assumption) | (with_reducible refine only_out ?_ _ _ (by (try simp) <;> omega)) | (refine only_below ?_ (Bel.alloc (Below.refl _ _) _))))⟩
  by_cases e3 : r = 3
  · subst e3
    go_wp2_with fail
    refine calls_box_out ?_
    intro W3 hb3 B3
    have B1 := B1.below hb3
    have B2 := B2.below hb3
    have G2 := only_below G1 hb3
    have hl1 := B2.lt
    have hgl1 := S1.lt
    refine (among_any [-1, 20, 21, 100, 101] w1.heap.size 5 (S1.below hb3) (by omega) (by decide) (by decide) B3 (by omega)).mono ?_
    rintro e w4 ⟨⟨q, rfl, hq⟩, S4, G4⟩
    have B1 := B1.grown G4 (by omega)
    have B2 := B2.grown G4 (by omega)
    have G4 := G2.trans G4
    clear S1 G1 G2 hb3 B3
    simp only [List.mem_cons, List.not_mem_nil, or_false] at hq
    have c0 : w4.cell? ⟨w.heap.size, 0, none⟩ = some (.string x.Id) := B1.cell 0
    have c1 : w4.cell? ⟨w.heap.size, 1, none⟩ = some (.int .i64 x.Trees) := B1.cell 1
    have c2 : w4.cell? ⟨w.heap.size, 2, none⟩ = some (.int .i64 x.Height) := B1.cell 2
    have c3 : w4.cell? ⟨w.heap.size, 3, none⟩ = some (.int .i64 x.Cover) := B1.cell 3
    have c4 : w4.cell? ⟨w.heap.size, 4, none⟩ = some (.int .i64 x.Gap) := B1.cell 4
    have z0 : w4.frozen? ⟨w.heap.size, 0, none⟩ = false := B1.free 0
    have z1 : w4.frozen? ⟨w.heap.size, 1, none⟩ = false := B1.free 1
    have z2 : w4.frozen? ⟨w.heap.size, 2, none⟩ = false := B1.free 2
    have z3 : w4.frozen? ⟨w.heap.size, 3, none⟩ = false := B1.free 3
    have z4 : w4.frozen? ⟨w.heap.size, 4, none⟩ = false := B1.free 4
    have d0 : w4.cell? ⟨w.heap.size + 1, 0, none⟩ = some (.string zeroStand.Id) := B2.cell 0
    have d1 : w4.cell? ⟨w.heap.size + 1, 1, none⟩ = some (.int .i64 zeroStand.Trees) := B2.cell 1
    have d2 : w4.cell? ⟨w.heap.size + 1, 2, none⟩ = some (.int .i64 zeroStand.Height) := B2.cell 2
    have d3 : w4.cell? ⟨w.heap.size + 1, 3, none⟩ = some (.int .i64 zeroStand.Cover) := B2.cell 3
    have d4 : w4.cell? ⟨w.heap.size + 1, 4, none⟩ = some (.int .i64 zeroStand.Gap) := B2.cell 4
    have y0 : w4.frozen? ⟨w.heap.size + 1, 0, none⟩ = false := B2.free 0
    have y1 : w4.frozen? ⟨w.heap.size + 1, 1, none⟩ = false := B2.free 1
    have y2 : w4.frozen? ⟨w.heap.size + 1, 2, none⟩ = false := B2.free 2
    have y3 : w4.frozen? ⟨w.heap.size + 1, 3, none⟩ = false := B2.free 3
    have y4 : w4.frozen? ⟨w.heap.size + 1, 4, none⟩ = false := B2.free 4
    clear B1 B2
    have S9 := S4.up (m' := m + 4) (by omega)
    clear S4
    go_wp2
    refine bodyPost_ret (v := .agg #[.string x.Id, .int .i64 x.Trees, .int .i64 x.Height, .int .i64 x.Cover, .int .i64 q]) (by simp [results, Try.results37, go_sem, d0, d1, d2, d3, d4]) rfl ?_
    exact ⟨⟨⟨x.Id, x.Trees, x.Height, x.Cover, q⟩, rfl, rfl, hx0, hx1⟩, (by repeat (first | (with_reducible assumption) | (with_reducible refine Src.set ?_ _ _ (by (try simp) <;> omega) (by (try simp) <;> omega)) | (refine Src.below ?_ (Bel.alloc (Below.refl _ _) _)))), (by repeat (first | (with_reducible assumption) | (with_reducible refine only_out ?_ _ _ (by (try simp) <;> omega)) | (refine only_below ?_ (Bel.alloc (Below.refl _ _) _))))⟩
  have f0 : (r == 0) = false := by simpa using e0
  have f1 : (r == 1) = false := by simpa using e1
  have f2 : (r == 2) = false := by simpa using e2
  have f3 : (r == 3) = false := by simpa using e3
  have c0 : w1.cell? ⟨w.heap.size, 0, none⟩ = some (.string x.Id) := B1.cell 0
  have c1 : w1.cell? ⟨w.heap.size, 1, none⟩ = some (.int .i64 x.Trees) := B1.cell 1
  have c2 : w1.cell? ⟨w.heap.size, 2, none⟩ = some (.int .i64 x.Height) := B1.cell 2
  have c3 : w1.cell? ⟨w.heap.size, 3, none⟩ = some (.int .i64 x.Cover) := B1.cell 3
  have c4 : w1.cell? ⟨w.heap.size, 4, none⟩ = some (.int .i64 x.Gap) := B1.cell 4
  have z0 : w1.frozen? ⟨w.heap.size, 0, none⟩ = false := B1.free 0
  have z1 : w1.frozen? ⟨w.heap.size, 1, none⟩ = false := B1.free 1
  have z2 : w1.frozen? ⟨w.heap.size, 2, none⟩ = false := B1.free 2
  have z3 : w1.frozen? ⟨w.heap.size, 3, none⟩ = false := B1.free 3
  have z4 : w1.frozen? ⟨w.heap.size, 4, none⟩ = false := B1.free 4
  have d0 : w1.cell? ⟨w.heap.size + 1, 0, none⟩ = some (.string zeroStand.Id) := B2.cell 0
  have d1 : w1.cell? ⟨w.heap.size + 1, 1, none⟩ = some (.int .i64 zeroStand.Trees) := B2.cell 1
  have d2 : w1.cell? ⟨w.heap.size + 1, 2, none⟩ = some (.int .i64 zeroStand.Height) := B2.cell 2
  have d3 : w1.cell? ⟨w.heap.size + 1, 3, none⟩ = some (.int .i64 zeroStand.Cover) := B2.cell 3
  have d4 : w1.cell? ⟨w.heap.size + 1, 4, none⟩ = some (.int .i64 zeroStand.Gap) := B2.cell 4
  have y0 : w1.frozen? ⟨w.heap.size + 1, 0, none⟩ = false := B2.free 0
  have y1 : w1.frozen? ⟨w.heap.size + 1, 1, none⟩ = false := B2.free 1
  have y2 : w1.frozen? ⟨w.heap.size + 1, 2, none⟩ = false := B2.free 2
  have y3 : w1.frozen? ⟨w.heap.size + 1, 3, none⟩ = false := B2.free 3
  have y4 : w1.frozen? ⟨w.heap.size + 1, 4, none⟩ = false := B2.free 4
  clear B1 B2
  have S9 := S1.up (m' := m + 4) (by omega)
  clear S1
  go_wp2
  refine bodyPost_ret (v := .agg #[.string x.Id, .int .i64 x.Trees, .int .i64 x.Height, .int .i64 x.Cover, .int .i64 x.Gap]) (by simp [results, Try.results37, go_sem, d0, d1, d2, d3, d4]) rfl ?_
  exact ⟨⟨x, rfl, rfl, hx0, hx1⟩, (by repeat (first | (with_reducible assumption) | (with_reducible refine Src.set ?_ _ _ (by (try simp) <;> omega) (by (try simp) <;> omega)) | (refine Src.below ?_ (Bel.alloc (Below.refl _ _) _)))), (by repeat (first | (with_reducible assumption) | (with_reducible refine only_out ?_ _ _ (by (try simp) <;> omega)) | (refine only_below ?_ (Bel.alloc (Below.refl _ _) _))))⟩
theorem l10DrawSnow_any {w : World} {base g m : Nat} (S : Src w base g m) (hm : m ≤ 10000000000) (hb : base ≤ w.heap.size) :
    Calls Try.prog 41 #[.pointer (some ⟨g, 0, none⟩)] w fun e w' => (∃ n : Int, e = .returned (.int .i64 n) ∧ -1 ≤ n ∧ n ≤ 3000) ∧ Src w' base g (m + 4) ∧ w.grownBy w' (some g) := by
  have hgl := S.lt
  go_enter Try.func41, Try.ntmps41
  go_wp2_with fail
  refine (one_any 9 S (by omega) (by omega)).mono ?_
  rintro e w1 ⟨⟨b, rfl⟩, S1, G1⟩
  have hgl1 := S1.lt
  cases b
  · go_wp2_with fail
    refine (pick_any 80 S1 (by omega) (by omega)).mono ?_
    rintro e w2 ⟨⟨r, rfl, r0, r1⟩, S2, G2⟩
    have r2 : r < 80 := by omega
    clear r1
    go_wp2
    go_ret
    exact ⟨⟨_, rfl, by omega, by omega⟩, S2, G1.trans G2⟩
  · go_wp2_with fail
    refine calls_box_out ?_
    intro W3 hb3 B3
    have G2 := only_below G1 hb3
    refine (among_any [-1, 0, 2000, 2001] w1.heap.size 4 (S1.below hb3) (by omega) (by decide) (by decide) B3 (by omega)).mono ?_
    rintro e w4 ⟨⟨q, rfl, hq⟩, S4, G4⟩
    simp only [List.mem_cons, List.not_mem_nil, or_false] at hq
    go_wp2
    go_ret
    exact ⟨⟨_, rfl, by omega, by omega⟩, S4, G2.trans G4⟩
theorem l10DrawLeast_any {w : World} {base g m : Nat} (S : Src w base g m) (hm : m ≤ 10000000000) (hb : base ≤ w.heap.size) :
    Calls Try.prog 46 #[.pointer (some ⟨g, 0, none⟩)] w fun e w' => (∃ n : Int, e = .returned (.int .i64 n) ∧ -1 ≤ n ∧ n ≤ 3000) ∧ Src w' base g (m + 2) ∧ w.grownBy w' (some g) := by
  have hgl := S.lt
  go_enter Try.func46, Try.ntmps46
  go_wp2_with fail
  refine calls_box_out ?_
  intro W3 hb3 B3
  refine (among_any [0, 100, 300, 500, 700, 1000, 1001, -1] w.heap.size 8 (S.below hb3) (by omega) (by decide) (by decide) B3 (by omega)).mono ?_
  rintro e w4 ⟨⟨q, rfl, hq⟩, S4, G4⟩
  simp only [List.mem_cons, List.not_mem_nil, or_false] at hq
  go_wp2
  go_ret
  exact ⟨⟨_, rfl, by omega, by omega⟩, S4, (Grown.bel hb3).trans G4⟩
end Go.Proofs.Ytcjalooaikfkbaa
