/- Chapter 4: what the drawing functions of observations hand back, and that they change their source alone. -/
import Derived.Test.YtcjalooaikfkbaaL04x
namespace Go.Proofs.Ytcjalooaikfkbaa
set_option linter.unusedSimpArgs false
set_option linter.unusedVariables false
open Go.RowKit
set_option maxHeartbeats 1600000
theorem l04DrawOne_any {w : World} {base g m : Nat} (S : Src w base g m) (hm : m ≤ 10000000000) (hb : base ≤ w.heap.size) :
    Calls Try.prog 96 #[.pointer (some ⟨g, 0, none⟩)] w fun e w' => (∃ x : SObserved, e = .returned (.agg #[.int .i64 x.Hour, .int .i64 x.Snow, .int .i64 x.Degrees, .int .i64 x.Wind])) ∧ Src w' base g (m + 8) ∧ w.grownBy w' (some g) := by
  have hgl := S.lt
  go_enter Try.func96, Try.ntmps96
  go_wp2_with fail
  refine calls_box_out ?_
  intro W hbw B1
  refine (pick_any 40 (S.below hbw) (by omega) (by omega)).mono ?_
  rintro e w1 ⟨⟨r, rfl, r0, r1⟩, S1, G1⟩
  have r2 : r < 40 := by omega
  clear r1
  have B1 := B1.grown G1 (by omega)
  have G1 := (Grown.bel hbw).trans G1
  go_wp2_with fail
  refine (pick_any 40 S1 (by omega) (by omega)).mono ?_
  rintro e w2 ⟨⟨q, rfl, q0, q1⟩, S2, G2⟩
  have q2 : q < 40 := by omega
  clear q1
  have B1 := B1.grown G2 (by omega)
  have G2 := G1.trans G2
  have hl2 := B1.lt
  have hgl2 := S2.lt
  clear S1 G1
  go_wp2_with fail
  refine calls_box_out ?_
  intro W3 hb3 B2
  have B1 := B1.below hb3
  have G3 := only_below G2 hb3
  refine (pick_any 40 (S2.below hb3) (by omega) (by omega)).mono ?_
  rintro e w4 ⟨⟨s, rfl, s0, s1⟩, S4, G4⟩
  have s2 : s < 40 := by omega
  clear s1
  have B1 := B1.grown G4 (by omega)
  have B2 := B2.grown G4 (by omega)
  have G4 := G3.trans G4
  clear S2 G2 G3 hb3
  have c0 : w4.cell? ⟨w2.heap.size, 0, none⟩ = some (.int .i64 r) := B2.cell 0
  have c1 : w4.cell? ⟨w2.heap.size, 1, none⟩ = some (.int .i64 (5 * q)) := B2.cell 1
  have c2 : w4.cell? ⟨w2.heap.size, 2, none⟩ = some (.int .i64 0) := B2.cell 2
  have c3 : w4.cell? ⟨w2.heap.size, 3, none⟩ = some (.int .i64 0) := B2.cell 3
  have z0 : w4.frozen? ⟨w2.heap.size, 0, none⟩ = false := B2.free 0
  have z1 : w4.frozen? ⟨w2.heap.size, 1, none⟩ = false := B2.free 1
  have z2 : w4.frozen? ⟨w2.heap.size, 2, none⟩ = false := B2.free 2
  have z3 : w4.frozen? ⟨w2.heap.size, 3, none⟩ = false := B2.free 3
  go_wp2_with fail
  have S4 := S4.set ⟨w2.heap.size, 2, none⟩ (.int .i64 (50 * s - 1500)) (by simp; omega) (by simp; omega)
  have B1 := B1.far (p := ⟨w2.heap.size, 2, none⟩) (by simp; omega) (.int .i64 (50 * s - 1500))
  have B2 := B2.set 2 (.int .i64 (50 * s - 1500))
  have G4 := only_out G4 ⟨w2.heap.size, 2, none⟩ (.int .i64 (50 * s - 1500)) (by simp; omega)
  clear c0 c1 c2 c3 z0 z1 z2 z3
  generalize (w4.setCell ⟨w2.heap.size, 2, none⟩ (.int .i64 (50 * s - 1500))) = w5 at *
  refine (pick_any 20 S4 (by omega) (by omega)).mono ?_
  rintro e w6 ⟨⟨t, rfl, t0, t1⟩, S6, G6⟩
  have t2 : t < 20 := by omega
  clear t1
  have B1 := B1.grown G6 (by omega)
  have B2 := B2.grown G6 (by omega)
  have G6 := G4.trans G6
  have c0 : w6.cell? ⟨w2.heap.size, 0, none⟩ = some (.int .i64 r) := B2.cell 0
  have c1 : w6.cell? ⟨w2.heap.size, 1, none⟩ = some (.int .i64 (5 * q)) := B2.cell 1
  have c2 : w6.cell? ⟨w2.heap.size, 2, none⟩ = some (.int .i64 (50 * s - 1500)) := B2.cell 2
  have c3 : w6.cell? ⟨w2.heap.size, 3, none⟩ = some (.int .i64 0) := B2.cell 3
  have z0 : w6.frozen? ⟨w2.heap.size, 0, none⟩ = false := B2.free 0
  have z1 : w6.frozen? ⟨w2.heap.size, 1, none⟩ = false := B2.free 1
  have z2 : w6.frozen? ⟨w2.heap.size, 2, none⟩ = false := B2.free 2
  have z3 : w6.frozen? ⟨w2.heap.size, 3, none⟩ = false := B2.free 3
  have d0 : w6.cell? ⟨w.heap.size, 0, none⟩ = some (.int .i64 0) := B1.cell 0
  have d1 : w6.cell? ⟨w.heap.size, 1, none⟩ = some (.int .i64 0) := B1.cell 1
  have d2 : w6.cell? ⟨w.heap.size, 2, none⟩ = some (.int .i64 0) := B1.cell 2
  have d3 : w6.cell? ⟨w.heap.size, 3, none⟩ = some (.int .i64 0) := B1.cell 3
  have y0 : w6.frozen? ⟨w.heap.size, 0, none⟩ = false := B1.free 0
  have y1 : w6.frozen? ⟨w.heap.size, 1, none⟩ = false := B1.free 1
  have y2 : w6.frozen? ⟨w.heap.size, 2, none⟩ = false := B1.free 2
  have y3 : w6.frozen? ⟨w.heap.size, 3, none⟩ = false := B1.free 3
  have hne : w.heap.size ≠ w2.heap.size := by omega
  clear S4 G4 B1 B2
  have S6 := S6.up (m' := m + 8) (by omega)
  go_wp2
  refine bodyPost_ret (v := .agg #[.int .i64 r, .int .i64 (5 * q), .int .i64 (50 * s - 1500), .int .i64 (100 * t)]) (by simp [results, Try.results96, go_sem, d0, d1, d2, d3, hne]) rfl ?_
  exact ⟨⟨⟨r, 5 * q, 50 * s - 1500, 100 * t⟩, rfl⟩, (by repeat (first | (with_reducible assumption) | (with_reducible refine Src.set ?_ _ _ (by (try simp) <;> omega) (by (try simp) <;> omega)) | (with_reducible refine Src.below ?_ (Bel.alloc (Below.refl _ _) _)))), (by repeat (first | (with_reducible assumption) | (with_reducible refine only_out ?_ _ _ (by (try simp) <;> omega)) | (with_reducible refine only_below ?_ (Bel.alloc (Below.refl _ _) _))))⟩
theorem l04Bend_any {w : World} {base g m : Nat} (x : SObserved) (S : Src w base g m) (hm : m ≤ 10000000000) (hb : base ≤ w.heap.size) :
    Calls Try.prog 97 #[.pointer (some ⟨g, 0, none⟩), .agg #[.int .i64 x.Hour, .int .i64 x.Snow, .int .i64 x.Degrees, .int .i64 x.Wind]] w fun e w' => (∃ y : SObserved, e = .returned (.agg #[.int .i64 y.Hour, .int .i64 y.Snow, .int .i64 y.Degrees, .int .i64 y.Wind])) ∧ Src w' base g (m + 4) ∧ w.grownBy w' (some g) := by
  have hgl := S.lt
  go_enter Try.func97, Try.ntmps97
  go_wp2_with fail
  refine calls_box_out2 ?_
  intro W hbw B1 B2
  refine (pick_any 18 (S.below hbw) (by omega) (by omega)).mono ?_
  rintro e w1 ⟨⟨r, rfl, r0, r1⟩, S1, G1⟩
  have r2 : r < 18 := by omega
  clear r1
  have B1 := B1.grown G1 (by omega)
  have B2 := B2.grown G1 (by omega)
  have G1 := (Grown.bel hbw).trans G1
  clear S hbw
  by_cases e0 : r = 0
  · subst e0
    go_wp2_with fail
    refine calls_box_out ?_
    intro W3 hb3 B3
    have B1 := B1.below hb3
    have B2 := B2.below hb3
    have G2 := only_below G1 hb3
    have hl1 := B2.lt
    have hgl1 := S1.lt
    refine (among_any [-1, 0, 100000, 100001] w1.heap.size 4 (S1.below hb3) (by omega) (by decide) (by decide) B3 (by omega)).mono ?_
    rintro e w4 ⟨⟨q, rfl, hq⟩, S4, G4⟩
    have B1 := B1.grown G4 (by omega)
    have B2 := B2.grown G4 (by omega)
    have G4 := G2.trans G4
    clear S1 G1 G2 hb3 B3
    simp only [List.mem_cons, List.not_mem_nil, or_false] at hq
    have c0 : w4.cell? ⟨w.heap.size, 0, none⟩ = some (.int .i64 x.Hour) := B1.cell 0
    have c1 : w4.cell? ⟨w.heap.size, 1, none⟩ = some (.int .i64 x.Snow) := B1.cell 1
    have c2 : w4.cell? ⟨w.heap.size, 2, none⟩ = some (.int .i64 x.Degrees) := B1.cell 2
    have c3 : w4.cell? ⟨w.heap.size, 3, none⟩ = some (.int .i64 x.Wind) := B1.cell 3
    have z0 : w4.frozen? ⟨w.heap.size, 0, none⟩ = false := B1.free 0
    have z1 : w4.frozen? ⟨w.heap.size, 1, none⟩ = false := B1.free 1
    have z2 : w4.frozen? ⟨w.heap.size, 2, none⟩ = false := B1.free 2
    have z3 : w4.frozen? ⟨w.heap.size, 3, none⟩ = false := B1.free 3
    have d0 : w4.cell? ⟨w.heap.size + 1, 0, none⟩ = some (.int .i64 0) := B2.cell 0
    have d1 : w4.cell? ⟨w.heap.size + 1, 1, none⟩ = some (.int .i64 0) := B2.cell 1
    have d2 : w4.cell? ⟨w.heap.size + 1, 2, none⟩ = some (.int .i64 0) := B2.cell 2
    have d3 : w4.cell? ⟨w.heap.size + 1, 3, none⟩ = some (.int .i64 0) := B2.cell 3
    have y0 : w4.frozen? ⟨w.heap.size + 1, 0, none⟩ = false := B2.free 0
    have y1 : w4.frozen? ⟨w.heap.size + 1, 1, none⟩ = false := B2.free 1
    have y2 : w4.frozen? ⟨w.heap.size + 1, 2, none⟩ = false := B2.free 2
    have y3 : w4.frozen? ⟨w.heap.size + 1, 3, none⟩ = false := B2.free 3
    clear B1 B2
    have S9 := S4.up (m' := m + 4) (by omega)
    clear S4
    go_wp2
    refine bodyPost_ret (v := .agg #[.int .i64 q, .int .i64 x.Snow, .int .i64 x.Degrees, .int .i64 x.Wind]) (by simp [results, Try.results97, go_sem, d0, d1, d2, d3]) rfl ?_
    exact ⟨⟨⟨q, x.Snow, x.Degrees, x.Wind⟩, rfl⟩, (by repeat (first | (with_reducible assumption) | (with_reducible refine Src.set ?_ _ _ (by (try simp) <;> omega) (by (try simp) <;> omega)) | (with_reducible refine Src.below ?_ (Bel.alloc (Below.refl _ _) _)))), (by repeat (first | (with_reducible assumption) | (with_reducible refine only_out ?_ _ _ (by (try simp) <;> omega)) | (with_reducible refine only_below ?_ (Bel.alloc (Below.refl _ _) _))))⟩
  by_cases e1 : r = 1
  · subst e1
    go_wp2_with fail
    refine calls_box_out ?_
    intro W3 hb3 B3
    have B1 := B1.below hb3
    have B2 := B2.below hb3
    have G2 := only_below G1 hb3
    have hl1 := B2.lt
    have hgl1 := S1.lt
    refine (among_any [-1, 0, 2000, 2001] w1.heap.size 4 (S1.below hb3) (by omega) (by decide) (by decide) B3 (by omega)).mono ?_
    rintro e w4 ⟨⟨q, rfl, hq⟩, S4, G4⟩
    have B1 := B1.grown G4 (by omega)
    have B2 := B2.grown G4 (by omega)
    have G4 := G2.trans G4
    clear S1 G1 G2 hb3 B3
    simp only [List.mem_cons, List.not_mem_nil, or_false] at hq
    have c0 : w4.cell? ⟨w.heap.size, 0, none⟩ = some (.int .i64 x.Hour) := B1.cell 0
    have c1 : w4.cell? ⟨w.heap.size, 1, none⟩ = some (.int .i64 x.Snow) := B1.cell 1
    have c2 : w4.cell? ⟨w.heap.size, 2, none⟩ = some (.int .i64 x.Degrees) := B1.cell 2
    have c3 : w4.cell? ⟨w.heap.size, 3, none⟩ = some (.int .i64 x.Wind) := B1.cell 3
    have z0 : w4.frozen? ⟨w.heap.size, 0, none⟩ = false := B1.free 0
    have z1 : w4.frozen? ⟨w.heap.size, 1, none⟩ = false := B1.free 1
    have z2 : w4.frozen? ⟨w.heap.size, 2, none⟩ = false := B1.free 2
    have z3 : w4.frozen? ⟨w.heap.size, 3, none⟩ = false := B1.free 3
    have d0 : w4.cell? ⟨w.heap.size + 1, 0, none⟩ = some (.int .i64 0) := B2.cell 0
    have d1 : w4.cell? ⟨w.heap.size + 1, 1, none⟩ = some (.int .i64 0) := B2.cell 1
    have d2 : w4.cell? ⟨w.heap.size + 1, 2, none⟩ = some (.int .i64 0) := B2.cell 2
    have d3 : w4.cell? ⟨w.heap.size + 1, 3, none⟩ = some (.int .i64 0) := B2.cell 3
    have y0 : w4.frozen? ⟨w.heap.size + 1, 0, none⟩ = false := B2.free 0
    have y1 : w4.frozen? ⟨w.heap.size + 1, 1, none⟩ = false := B2.free 1
    have y2 : w4.frozen? ⟨w.heap.size + 1, 2, none⟩ = false := B2.free 2
    have y3 : w4.frozen? ⟨w.heap.size + 1, 3, none⟩ = false := B2.free 3
    clear B1 B2
    have S9 := S4.up (m' := m + 4) (by omega)
    clear S4
    go_wp2
    refine bodyPost_ret (v := .agg #[.int .i64 x.Hour, .int .i64 q, .int .i64 x.Degrees, .int .i64 x.Wind]) (by simp [results, Try.results97, go_sem, d0, d1, d2, d3]) rfl ?_
    exact ⟨⟨⟨x.Hour, q, x.Degrees, x.Wind⟩, rfl⟩, (by repeat (first | (with_reducible assumption) | (with_reducible refine Src.set ?_ _ _ (by (try simp) <;> omega) (by (try simp) <;> omega)) | (with_reducible refine Src.below ?_ (Bel.alloc (Below.refl _ _) _)))), (by repeat (first | (with_reducible assumption) | (with_reducible refine only_out ?_ _ _ (by (try simp) <;> omega)) | (with_reducible refine only_below ?_ (Bel.alloc (Below.refl _ _) _))))⟩
  by_cases e2 : r = 2
  · subst e2
    go_wp2_with fail
    refine calls_box_out ?_
    intro W3 hb3 B3
    have B1 := B1.below hb3
    have B2 := B2.below hb3
    have G2 := only_below G1 hb3
    have hl1 := B2.lt
    have hgl1 := S1.lt
    refine (among_any [-5001, -5000, 5000, 5001] w1.heap.size 4 (S1.below hb3) (by omega) (by decide) (by decide) B3 (by omega)).mono ?_
    rintro e w4 ⟨⟨q, rfl, hq⟩, S4, G4⟩
    have B1 := B1.grown G4 (by omega)
    have B2 := B2.grown G4 (by omega)
    have G4 := G2.trans G4
    clear S1 G1 G2 hb3 B3
    simp only [List.mem_cons, List.not_mem_nil, or_false] at hq
    have c0 : w4.cell? ⟨w.heap.size, 0, none⟩ = some (.int .i64 x.Hour) := B1.cell 0
    have c1 : w4.cell? ⟨w.heap.size, 1, none⟩ = some (.int .i64 x.Snow) := B1.cell 1
    have c2 : w4.cell? ⟨w.heap.size, 2, none⟩ = some (.int .i64 x.Degrees) := B1.cell 2
    have c3 : w4.cell? ⟨w.heap.size, 3, none⟩ = some (.int .i64 x.Wind) := B1.cell 3
    have z0 : w4.frozen? ⟨w.heap.size, 0, none⟩ = false := B1.free 0
    have z1 : w4.frozen? ⟨w.heap.size, 1, none⟩ = false := B1.free 1
    have z2 : w4.frozen? ⟨w.heap.size, 2, none⟩ = false := B1.free 2
    have z3 : w4.frozen? ⟨w.heap.size, 3, none⟩ = false := B1.free 3
    have d0 : w4.cell? ⟨w.heap.size + 1, 0, none⟩ = some (.int .i64 0) := B2.cell 0
    have d1 : w4.cell? ⟨w.heap.size + 1, 1, none⟩ = some (.int .i64 0) := B2.cell 1
    have d2 : w4.cell? ⟨w.heap.size + 1, 2, none⟩ = some (.int .i64 0) := B2.cell 2
    have d3 : w4.cell? ⟨w.heap.size + 1, 3, none⟩ = some (.int .i64 0) := B2.cell 3
    have y0 : w4.frozen? ⟨w.heap.size + 1, 0, none⟩ = false := B2.free 0
    have y1 : w4.frozen? ⟨w.heap.size + 1, 1, none⟩ = false := B2.free 1
    have y2 : w4.frozen? ⟨w.heap.size + 1, 2, none⟩ = false := B2.free 2
    have y3 : w4.frozen? ⟨w.heap.size + 1, 3, none⟩ = false := B2.free 3
    clear B1 B2
    have S9 := S4.up (m' := m + 4) (by omega)
    clear S4
    go_wp2
    refine bodyPost_ret (v := .agg #[.int .i64 x.Hour, .int .i64 x.Snow, .int .i64 q, .int .i64 x.Wind]) (by simp [results, Try.results97, go_sem, d0, d1, d2, d3]) rfl ?_
    exact ⟨⟨⟨x.Hour, x.Snow, q, x.Wind⟩, rfl⟩, (by repeat (first | (with_reducible assumption) | (with_reducible refine Src.set ?_ _ _ (by (try simp) <;> omega) (by (try simp) <;> omega)) | (with_reducible refine Src.below ?_ (Bel.alloc (Below.refl _ _) _)))), (by repeat (first | (with_reducible assumption) | (with_reducible refine only_out ?_ _ _ (by (try simp) <;> omega)) | (with_reducible refine only_below ?_ (Bel.alloc (Below.refl _ _) _))))⟩
  by_cases e3 : r = 3
  · subst e3
    go_wp2_with fail
    refine calls_box_out ?_
    intro W3 hb3 B3
    have B1 := B1.below hb3
    have B2 := B2.below hb3
    have G2 := only_below G1 hb3
    have hl1 := B2.lt
    have hgl1 := S1.lt
    refine (among_any [-1, 0, 10000, 10001] w1.heap.size 4 (S1.below hb3) (by omega) (by decide) (by decide) B3 (by omega)).mono ?_
    rintro e w4 ⟨⟨q, rfl, hq⟩, S4, G4⟩
    have B1 := B1.grown G4 (by omega)
    have B2 := B2.grown G4 (by omega)
    have G4 := G2.trans G4
    clear S1 G1 G2 hb3 B3
    simp only [List.mem_cons, List.not_mem_nil, or_false] at hq
    have c0 : w4.cell? ⟨w.heap.size, 0, none⟩ = some (.int .i64 x.Hour) := B1.cell 0
    have c1 : w4.cell? ⟨w.heap.size, 1, none⟩ = some (.int .i64 x.Snow) := B1.cell 1
    have c2 : w4.cell? ⟨w.heap.size, 2, none⟩ = some (.int .i64 x.Degrees) := B1.cell 2
    have c3 : w4.cell? ⟨w.heap.size, 3, none⟩ = some (.int .i64 x.Wind) := B1.cell 3
    have z0 : w4.frozen? ⟨w.heap.size, 0, none⟩ = false := B1.free 0
    have z1 : w4.frozen? ⟨w.heap.size, 1, none⟩ = false := B1.free 1
    have z2 : w4.frozen? ⟨w.heap.size, 2, none⟩ = false := B1.free 2
    have z3 : w4.frozen? ⟨w.heap.size, 3, none⟩ = false := B1.free 3
    have d0 : w4.cell? ⟨w.heap.size + 1, 0, none⟩ = some (.int .i64 0) := B2.cell 0
    have d1 : w4.cell? ⟨w.heap.size + 1, 1, none⟩ = some (.int .i64 0) := B2.cell 1
    have d2 : w4.cell? ⟨w.heap.size + 1, 2, none⟩ = some (.int .i64 0) := B2.cell 2
    have d3 : w4.cell? ⟨w.heap.size + 1, 3, none⟩ = some (.int .i64 0) := B2.cell 3
    have y0 : w4.frozen? ⟨w.heap.size + 1, 0, none⟩ = false := B2.free 0
    have y1 : w4.frozen? ⟨w.heap.size + 1, 1, none⟩ = false := B2.free 1
    have y2 : w4.frozen? ⟨w.heap.size + 1, 2, none⟩ = false := B2.free 2
    have y3 : w4.frozen? ⟨w.heap.size + 1, 3, none⟩ = false := B2.free 3
    clear B1 B2
    have S9 := S4.up (m' := m + 4) (by omega)
    clear S4
    go_wp2
    refine bodyPost_ret (v := .agg #[.int .i64 x.Hour, .int .i64 x.Snow, .int .i64 x.Degrees, .int .i64 q]) (by simp [results, Try.results97, go_sem, d0, d1, d2, d3]) rfl ?_
    exact ⟨⟨⟨x.Hour, x.Snow, x.Degrees, q⟩, rfl⟩, (by repeat (first | (with_reducible assumption) | (with_reducible refine Src.set ?_ _ _ (by (try simp) <;> omega) (by (try simp) <;> omega)) | (with_reducible refine Src.below ?_ (Bel.alloc (Below.refl _ _) _)))), (by repeat (first | (with_reducible assumption) | (with_reducible refine only_out ?_ _ _ (by (try simp) <;> omega)) | (with_reducible refine only_below ?_ (Bel.alloc (Below.refl _ _) _))))⟩
  have f0 : (r == 0) = false := by simpa using e0
  have f1 : (r == 1) = false := by simpa using e1
  have f2 : (r == 2) = false := by simpa using e2
  have f3 : (r == 3) = false := by simpa using e3
  have c0 : w1.cell? ⟨w.heap.size, 0, none⟩ = some (.int .i64 x.Hour) := B1.cell 0
  have c1 : w1.cell? ⟨w.heap.size, 1, none⟩ = some (.int .i64 x.Snow) := B1.cell 1
  have c2 : w1.cell? ⟨w.heap.size, 2, none⟩ = some (.int .i64 x.Degrees) := B1.cell 2
  have c3 : w1.cell? ⟨w.heap.size, 3, none⟩ = some (.int .i64 x.Wind) := B1.cell 3
  have z0 : w1.frozen? ⟨w.heap.size, 0, none⟩ = false := B1.free 0
  have z1 : w1.frozen? ⟨w.heap.size, 1, none⟩ = false := B1.free 1
  have z2 : w1.frozen? ⟨w.heap.size, 2, none⟩ = false := B1.free 2
  have z3 : w1.frozen? ⟨w.heap.size, 3, none⟩ = false := B1.free 3
  have d0 : w1.cell? ⟨w.heap.size + 1, 0, none⟩ = some (.int .i64 0) := B2.cell 0
  have d1 : w1.cell? ⟨w.heap.size + 1, 1, none⟩ = some (.int .i64 0) := B2.cell 1
  have d2 : w1.cell? ⟨w.heap.size + 1, 2, none⟩ = some (.int .i64 0) := B2.cell 2
  have d3 : w1.cell? ⟨w.heap.size + 1, 3, none⟩ = some (.int .i64 0) := B2.cell 3
  have y0 : w1.frozen? ⟨w.heap.size + 1, 0, none⟩ = false := B2.free 0
  have y1 : w1.frozen? ⟨w.heap.size + 1, 1, none⟩ = false := B2.free 1
  have y2 : w1.frozen? ⟨w.heap.size + 1, 2, none⟩ = false := B2.free 2
  have y3 : w1.frozen? ⟨w.heap.size + 1, 3, none⟩ = false := B2.free 3
  clear B1 B2
  have S9 := S1.up (m' := m + 4) (by omega)
  clear S1
  go_wp2
  refine bodyPost_ret (v := .agg #[.int .i64 x.Hour, .int .i64 x.Snow, .int .i64 x.Degrees, .int .i64 x.Wind]) (by simp [results, Try.results97, go_sem, d0, d1, d2, d3]) rfl ?_
  exact ⟨⟨x, rfl⟩, (by repeat (first | (with_reducible assumption) | (with_reducible refine Src.set ?_ _ _ (by (try simp) <;> omega) (by (try simp) <;> omega)) | (with_reducible refine Src.below ?_ (Bel.alloc (Below.refl _ _) _)))), (by repeat (first | (with_reducible assumption) | (with_reducible refine only_out ?_ _ _ (by (try simp) <;> omega)) | (with_reducible refine only_below ?_ (Bel.alloc (Below.refl _ _) _))))⟩
theorem l04Draw_any {w : World} {base g m : Nat} (S : Src w base g m) (hm : m ≤ 1000000000) (hb : base ≤ w.heap.size) :
    Calls Try.prog 68 #[.pointer (some ⟨g, 0, none⟩)] w fun e w' => (∃ (xs : List SObserved) (v : Value), e = .returned v ∧ xs.length ≤ 60 ∧ Row SObserved.cells 4 66 w' w.heap.size v xs ∧ v.ownBlock ≠ none) ∧ Src w' base g (m + 200) ∧ w.grownBy w' (some g) := by
  have hgl := S.lt
  go_enter Try.func68, Try.ntmps68
  go_wp2_with fail
  refine calls_box_out ?_
  intro W hbw B1
  refine (pick_any 12 (S.below hbw) (by omega) (by omega)).mono ?_
  rintro e w1 ⟨⟨r, rfl, r0, r1⟩, S1, G1⟩
  have r2 : r < 12 := by omega
  clear r1
  have B1 := B1.grown G1 (by omega)
  have G1 := (Grown.bel hbw).trans G1
  obtain ⟨k, rfl⟩ := Int.eq_ofNat_of_zero_le r0
  have R1 : Row SObserved.cells 4 66 w1 w.heap.size (.slice (some ⟨w.heap.size, 0, none⟩) 0 0) [] := Row.ofBox B1 (Nat.le_refl _)
  clear B1 S hbw
  have HR1 := Lib.hid R1
  have HS1 := Lib.hid S1
  have HG1 := Lib.hid G1
  clear R1 S1 G1
  go_wp2_with fail
  go_loopw [3, 4, 5, 6] (fun v i _ _ wr => ∃ (j : Nat) (ys : List SObserved), j ≤ 11 ∧ i = .int .i64 j ∧ ys.length + j ≤ 11 ∧ Row SObserved.cells 4 66 wr w.heap.size v ys ∧ v.ownBlock ≠ none ∧ Src wr base g (m + 2 + 8 * (11 - j)) ∧ w.grownBy wr (some g)) (fun _ i _ _ wr => (intOf i).toNat)
  case atStart => exact ⟨k, [], by omega, rfl, by simp; omega, HR1.out, by simp [Value.ownBlock], HS1.out.up (by omega), HG1.out⟩
  case round =>
    clear HR1 HS1 HG1
    obtain ⟨j, ys, hj, rfl, hys, R, hno, S, G⟩ := hrel
    have hsz := G.size
    have hgr := S.lt
    by_cases hlt : 0 < j
    · obtain ⟨bb, cc, rfl, hbb, hcc, HA⟩ := R.arrC hno (fun _ => rfl)
      have HR := Lib.hid R
      have HG := Lib.hid G
      have HN := Lib.hid hno
      clear R G hno HA
      go_wp2_with fail
      refine (l04DrawOne_any S (by omega) (by omega)).mono ?_
      rintro e w2 ⟨⟨x, rfl⟩, S2, G2⟩
      have HS2 := Lib.hid S2
      have HR := Lib.hid (HR.out.grownBelow G2 hgl)
      have HG := Lib.hid (HG.out.trans G2)
      have hsz2 := HG.out.size
      clear S S2 G2
      obtain ⟨b', c', e2, -, -, hA⟩ := HR.out.arrC HN.out (fun _ => rfl)
      simp only [Value.slice.injEq, Option.some.injEq, Addr.mk.injEq] at e2
      obtain ⟨⟨rfl, -⟩, -, rfl⟩ := e2
      have HA := Lib.hid hA
      clear hA
      go_wp2_with fail
      refine (addObserved_any ys bb cc x _ HA.out hcc (by omega)).mono ?_
      rintro e w3 ⟨⟨zs, v3, q, rfl, hq⟩, hb3⟩
      have HS2 := Lib.hid (HS2.out.below hb3)
      have HR := Lib.hid (HR.out.below hb3)
      have HG := Lib.hid (only_below HG.out hb3)
      have HQ := Lib.hid hq
      clear HA hq
      by_cases h0 : q = 0
      · subst h0
        have h00 : ((0 : Int) == 0) = true := rfl
        go_wp2
        obtain ⟨g1, g2, g3⟩ := HQ.out (by simp)
        go_roundw
        case rel => exact ⟨j - 1, zs, by omega, by go_num, by omega, g2.lower hsz2, g3, HS2.out.up (by omega), HG.out⟩
        case measure => simp [intOf]; omega
      · have h00 : (q == 0) = false := beq_eq_false_iff_ne.mpr h0
        clear h0
        go_wp2
        go_roundw
        case rel => exact ⟨j - 1, ys, by omega, by go_num, by omega, HR.out, HN.out, HS2.out.up (by omega), HG.out⟩
        case measure => simp [intOf]; omega
    · obtain rfl : j = 0 := by omega
      have HR := Lib.hid R
      have HN := Lib.hid hno
      have HG := Lib.hid G
      clear R G hno
      go_wp2_with fail
      refine (pick_any 20 S (by omega) (by omega)).mono ?_
      rintro e w2 ⟨⟨r, rfl, r0, r1⟩, S2, G2⟩
      have r2 : r < 20 := by omega
      clear r1
      have HR := Lib.hid (HR.out.grownBelow G2 hgl)
      have G2 := HG.out.trans G2
      have hsz2 := G2.size
      clear S HG
      by_cases e0 : r = 0
      · subst e0
        go_wp2_with fail
        refine (l04DrawOne_any S2 (by omega) (by omega)).mono ?_
        rintro e w3 ⟨⟨x, rfl⟩, S3, G3⟩
        have HR := Lib.hid (HR.out.grownBelow G3 hgl)
        have G3 := G2.trans G3
        have hsz3 := G3.size
        clear S2 G2
        go_wp2_with fail
        refine (l04Bend_any x S3 (by omega) (by omega)).mono ?_
        rintro e w4 ⟨⟨y, rfl⟩, S4, G4⟩
        have HR := Lib.hid (HR.out.grownBelow G4 hgl)
        have G4 := G3.trans G4
        have hsz4 := G4.size
        have HG := Lib.hid G4
        have HS := Lib.hid S4
        clear S3 G3 G4 S4
        go_wp2_with (at_builtin; refine wpList_pushObservedR rfl _ _ 57 rfl w.heap.size 66 Try.underlying57 (by kernel_rfl) u3 ys y rfl HR.out 1 rfl (by omega) hsz4 ?_; intro v' w5 hr5 hb5)
        go_ret
        exact ⟨⟨ys ++ [y], v', rfl, by rw [List.length_append]; simp; omega, hr5, hr5.own_some (by simp)⟩, (HS.out.upto hb5 hgl hb).up (by omega), Grown.upto HG.out hb5⟩
      by_cases e1 : r = 1
      · subst e1
        clear HR HN
        go_wp2_with fail
        refine calls_box_out ?_
        intro W3 hb3 B3
        have G3 := only_below G2 hb3
        have hgl2 := S2.lt
        refine (among_any [48, 49] w2.heap.size 2 (S2.below hb3) (by omega) (by decide) (by decide) B3 (by omega)).mono ?_
        rintro e w4 ⟨⟨q, rfl, hq⟩, S4, G4⟩
        have G4 := G3.trans G4
        have hsz4 := G4.size
        clear S2 G2 G3 hb3 B3
        simp only [List.mem_cons, List.not_mem_nil, or_false] at hq
        obtain ⟨n, rfl, hn⟩ : ∃ n : Nat, q = n ∧ n ≤ 49 := ⟨q.toNat, by omega, by omega⟩
        clear hq
        have HS := Lib.hid S4
        have HG := Lib.hid G4
        clear S4 G4
        go_wp2_with fail
        refine wp_box_out ?_
        intro W5 hb5 B5
        have R5 : Row SObserved.cells 4 66 W5 w.heap.size (.slice (some ⟨w4.heap.size, 0, none⟩) 0 0) [] := Row.ofBox B5 (by omega)
        have HR5 := Lib.hid R5
        have HS5 := Lib.hid (HS.out.below hb5)
        have HG5 := Lib.hid (only_below HG.out hb5)
        clear R5 HS HG hb5 B5
        go_loopw [3, 8] (fun v i wr => ∃ (j : Nat) (ys : List SObserved), j ≤ n ∧ i = .int .i64 j ∧ ys.length = j ∧ Row SObserved.cells 4 66 wr w.heap.size v ys ∧ v.ownBlock ≠ none ∧ Src wr base g (m + 200) ∧ w.grownBy wr (some g)) (fun _ i wr => n - (intOf i).toNat)
        case atStart => exact ⟨0, [], by omega, rfl, rfl, HR5.out, by simp [Value.ownBlock], HS5.out.up (by omega), HG5.out⟩
        case round =>
          clear HR5 HS5 HG5
          obtain ⟨j, ys, hj, rfl, hys, R, hno, S, G⟩ := hrel
          have hsz := G.size
          have HR := Lib.hid R
          have HG := Lib.hid G
          have HS := Lib.hid S
          have HN := Lib.hid hno
          clear R G S hno
          by_cases hlt : j < n
          · go_wp2_with (at_builtin; refine wpList_pushObservedR rfl _ _ 57 rfl w.heap.size 66 Try.underlying57 (by kernel_rfl) u3 ys ⟨j, 2 * (j : Int), 0, 0⟩ rfl HR.out 1 rfl (by omega) hsz ?_; intro v' w3 hr3 hb3)
            go_roundw
            case rel => exact ⟨j + 1, _, by omega, by go_num, by rw [List.length_append]; simp; omega, hr3, hr3.own_some (by simp), HS.out.upto hb3 hgl hb, Grown.upto HG.out hb3⟩
            case measure => simp [intOf]; omega
          · go_wp2
            go_ret
            exact ⟨⟨ys, _, rfl, by omega, HR.out, HN.out⟩, HS.out, HG.out⟩
      have f0 : (r == 0) = false := by simpa using e0
      have f1 : (r == 1) = false := by simpa using e1
      have HS := Lib.hid S2
      have HG := Lib.hid G2
      clear S2 G2
      go_wp2
      go_ret
      exact ⟨⟨ys, _, rfl, by omega, HR.out, HN.out⟩, HS.out.up (by omega), HG.out⟩
theorem l04DrawHour_any {w : World} {base g m : Nat} (S : Src w base g m) (hm : m ≤ 10000000000) (hb : base ≤ w.heap.size) :
    Calls Try.prog 76 #[.pointer (some ⟨g, 0, none⟩)] w fun e w' => (∃ n : Int, e = .returned (.int .i64 n) ∧ -1 ≤ n ∧ n ≤ 100001) ∧ Src w' base g (m + 4) ∧ w.grownBy w' (some g) := by
  have hgl := S.lt
  go_enter Try.func76, Try.ntmps76
  go_wp2_with fail
  refine (one_any 10 S (by omega) (by omega)).mono ?_
  rintro e w1 ⟨⟨b, rfl⟩, S1, G1⟩
  have hgl1 := S1.lt
  cases b
  · go_wp2_with fail
    refine (pick_any 45 S1 (by omega) (by omega)).mono ?_
    rintro e w2 ⟨⟨r, rfl, r0, r1⟩, S2, G2⟩
    have r2 : r < 45 := by omega
    clear r1
    go_wp2
    go_ret
    exact ⟨⟨_, rfl, by omega, by omega⟩, S2, G1.trans G2⟩
  · go_wp2_with fail
    refine calls_box_out ?_
    intro W3 hb3 B3
    have G2 := only_below G1 hb3
    refine (among_any [-1, 0, 100000, 100001] w1.heap.size 4 (S1.below hb3) (by omega) (by decide) (by decide) B3 (by omega)).mono ?_
    rintro e w4 ⟨⟨q, rfl, hq⟩, S4, G4⟩
    simp only [List.mem_cons, List.not_mem_nil, or_false] at hq
    go_wp2
    go_ret
    exact ⟨⟨_, rfl, by omega, by omega⟩, S4, G2.trans G4⟩
theorem l04DrawLimit_any {w : World} {base g m : Nat} (S : Src w base g m) (hm : m ≤ 10000000000) (hb : base ≤ w.heap.size) :
    Calls Try.prog 69 #[.pointer (some ⟨g, 0, none⟩)] w fun e w' => (∃ n : Int, e = .returned (.int .i64 n) ∧ -1 ≤ n ∧ n ≤ 100001) ∧ Src w' base g (m + 2) ∧ w.grownBy w' (some g) := by
  have hgl := S.lt
  go_enter Try.func69, Try.ntmps69
  go_wp2_with fail
  refine calls_box_out ?_
  intro W3 hb3 B3
  refine (among_any [0, 2, 5, 10, 50, 10000, 10001, -1] w.heap.size 8 (S.below hb3) (by omega) (by decide) (by decide) B3 (by omega)).mono ?_
  rintro e w4 ⟨⟨q, rfl, hq⟩, S4, G4⟩
  simp only [List.mem_cons, List.not_mem_nil, or_false] at hq
  go_wp2
  go_ret
  exact ⟨⟨_, rfl, by omega, by omega⟩, S4, (Grown.bel hb3).trans G4⟩
theorem DrawWithoutOdd_any {w : World} (A : Option Addr) (n c : Nat) (hn : n ≤ 1048576) (hnc : n ≤ c) (hc : c ≤ 9223372036854775807) (hby : Bytes9 w w.heap.size A n) :
    Calls Try.prog 29 #[.slice A n c] w fun e w' => (∃ (xs : List SObserved) (b d : Nat) (x y : Int), e = .returned (.tuple #[.slice (some ⟨b, 0, none⟩) xs.length d, .int .i64 x, .int .i64 y]) ∧ xs.length ≤ 60 ∧ Arr SObserved.cells 4 w' b xs) ∧ Below w.heap.size w w' := by
  have HBY := Lib.hid hby
  clear hby
  go_enter Try.func29, Try.ntmps29
  go_wp2_with fail
  refine (fromS_any A n c (Nat.le_refl _) hn hnc hc HBY.out).mono ?_
  rintro e w1 ⟨rfl, S1, hb1⟩
  have hle := hb1.size
  have hgl := S1.lt
  go_wp2_with fail
  refine (l04Draw_any S1 (by omega) hle).mono ?_
  rintro e w2 ⟨⟨xs, v, rfl, hx, R, hno⟩, S2, G2⟩
  have hle2 := G2.size
  obtain ⟨b, d, rfl, hbg, HA⟩ := R.arr hno (fun _ => rfl)
  have HR := Lib.hid R
  have HB := Lib.hid (below_of_grown G2 hle (Nat.le_refl _))
  clear R S1 G2 hno HA HBY
  have HB1 := Lib.hid hb1
  clear hb1
  go_wp2_with fail
  refine (l04DrawLimit_any S2 (by omega) (by omega)).mono ?_
  rintro e w3 ⟨⟨x, rfl, hx0, hx1⟩, S3, G3⟩
  have hle3 := G3.size
  have HR := Lib.hid (HR.out.grownBelow G3 (by omega))
  have HB := Lib.hid (HB.out.trans (below_of_grown G3 (by omega) (Nat.le_refl _)))
  clear S2 G3
  go_wp2_with fail
  refine (l04DrawLimit_any S3 (by omega) (by omega)).mono ?_
  rintro e w4 ⟨⟨y, rfl, hy0, hy1⟩, S4, G4⟩
  have HR := Lib.hid (HR.out.grownBelow G4 (by omega))
  have HB := Lib.hid (HB.out.trans (below_of_grown G4 (by omega) (Nat.le_refl _)))
  clear S3 S4 G4
  go_wp2
  go_ret3
  obtain ⟨b', d', e2, -, HA⟩ := HR.out.arr (by simp [Value.ownBlock]) (fun _ => rfl)
  simp only [Value.slice.injEq, Option.some.injEq, Addr.mk.injEq] at e2
  obtain ⟨⟨rfl, -⟩, -, rfl⟩ := e2
  exact ⟨⟨xs, b, d, x, _, rfl, hx, HA⟩, HB1.out.trans HB.out⟩
theorem DrawMissingHours_any {w : World} (A : Option Addr) (n c : Nat) (hn : n ≤ 1048576) (hnc : n ≤ c) (hc : c ≤ 9223372036854775807) (hby : Bytes9 w w.heap.size A n) :
    Calls Try.prog 34 #[.slice A n c] w fun e w' => (∃ (xs : List SObserved) (b d : Nat) (x y : Int), e = .returned (.tuple #[.slice (some ⟨b, 0, none⟩) xs.length d, .int .i64 x, .int .i64 y]) ∧ xs.length ≤ 60 ∧ Arr SObserved.cells 4 w' b xs) ∧ Below w.heap.size w w' := by
  have HBY := Lib.hid hby
  clear hby
  go_enter Try.func34, Try.ntmps34
  go_wp2_with fail
  refine (fromS_any A n c (Nat.le_refl _) hn hnc hc HBY.out).mono ?_
  rintro e w1 ⟨rfl, S1, hb1⟩
  have hle := hb1.size
  have hgl := S1.lt
  go_wp2_with fail
  refine (l04Draw_any S1 (by omega) hle).mono ?_
  rintro e w2 ⟨⟨xs, v, rfl, hx, R, hno⟩, S2, G2⟩
  have hle2 := G2.size
  obtain ⟨b, d, rfl, hbg, HA⟩ := R.arr hno (fun _ => rfl)
  have HR := Lib.hid R
  have HB := Lib.hid (below_of_grown G2 hle (Nat.le_refl _))
  clear R S1 G2 hno HA HBY
  have HB1 := Lib.hid hb1
  clear hb1
  go_wp2_with fail
  refine (l04DrawHour_any S2 (by omega) (by omega)).mono ?_
  rintro e w3 ⟨⟨x, rfl, hx0, hx1⟩, S3, G3⟩
  have hle3 := G3.size
  have HR := Lib.hid (HR.out.grownBelow G3 (by omega))
  have HB := Lib.hid (HB.out.trans (below_of_grown G3 (by omega) (Nat.le_refl _)))
  clear S2 G3
  go_wp2_with fail
  refine calls_box_out ?_
  intro W4 hb4 B4
  have HR := Lib.hid (HR.out.below hb4)
  have HB := Lib.hid (HB.out.trans (hb4.mono (by omega)))
  refine (among_any [0, 6, 12, 24, 64, 65, 110, -1] w3.heap.size 8 (S3.below hb4) (by omega) (by decide) (by decide) B4 (by omega)).mono ?_
  rintro e w4 ⟨⟨y, rfl, hy⟩, S4, G4⟩
  simp only [List.mem_cons, List.not_mem_nil, or_false] at hy
  have hle4 := hb4.size
  clear B4 hb4
  have HR := Lib.hid (HR.out.grownBelow G4 (by omega))
  have HB := Lib.hid (HB.out.trans (below_of_grown G4 (by omega) (Nat.le_refl _)))
  clear S3 S4 G4
  go_wp2
  go_ret3
  obtain ⟨b', d', e2, -, HA⟩ := HR.out.arr (by simp [Value.ownBlock]) (fun _ => rfl)
  simp only [Value.slice.injEq, Option.some.injEq, Addr.mk.injEq] at e2
  obtain ⟨⟨rfl, -⟩, -, rfl⟩ := e2
  exact ⟨⟨xs, b, d, x, _, rfl, hx, HA⟩, HB1.out.trans HB.out⟩
end Go.Proofs.Ytcjalooaikfkbaa
