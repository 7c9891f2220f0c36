/- Chapter 20: what the drawing functions of verified days hand back, and that they change their source alone. -/
import Derived.Test.YtcjalooaikfkbaaL20x
import Derived.Deep.CutRange
namespace Go.Proofs.Ytcjalooaikfkbaa
set_option linter.unusedSimpArgs false
set_option linter.unusedVariables false
open Go.RowKit
set_option maxHeartbeats 1600000
theorem l20DrawOne_any {w : World} {base g m : Nat} (S : Src w base g m) (hm : m ≤ 10000000000) (hb : base ≤ w.heap.size) :
    Calls Try.prog 91 #[.pointer (some ⟨g, 0, none⟩)] w fun e w' => (∃ x : SVerified, e = .returned (.agg #[.int .i64 x.Day, .int .i64 x.Told, .int .i64 x.Seen])) ∧ Src w' base g (m + 8) ∧ w.grownBy w' (some g) := by
  have hgl := S.lt
  go_enter Try.func91, Try.ntmps91
  go_wp2_with fail
  refine calls_box_out ?_
  intro W hbw B1
  refine (pick_any 30 (S.below hbw) (by omega) (by omega)).mono ?_
  rintro e w1 ⟨⟨r, rfl, r0, r1⟩, S1, G1⟩
  have r2 : r < 30 := by omega
  clear r1
  have B1 := B1.grown G1 (by omega)
  have G1 := (Grown.bel hbw).trans G1
  go_wp2_with fail
  refine (pick_any 5 S1 (by omega) (by omega)).mono ?_
  rintro e w2 ⟨⟨q, rfl, q0, q1⟩, S2, G2⟩
  have q2 : q < 5 := by omega
  clear q1
  have B1 := B1.grown G2 (by omega)
  have G2 := G1.trans G2
  have hl2 := B1.lt
  have hgl2 := S2.lt
  clear S1 G1
  go_upto_region 2 with fail
  refine wp_box_out ?_
  intro W3 hb3 B2
  have B1 := B1.below hb3
  have G3 := only_below G2 hb3
  have S3 := S2.below hb3
  have c0 : W3.cell? ⟨w2.heap.size, 0, none⟩ = some (.int .i64 (9000 + r)) := B2.cell 0
  have c1 : W3.cell? ⟨w2.heap.size, 1, none⟩ = some (.int .i64 (1 + q)) := B2.cell 1
  have c2 : W3.cell? ⟨w2.heap.size, 2, none⟩ = some (.int .i64 0) := B2.cell 2
  have z0 : W3.frozen? ⟨w2.heap.size, 0, none⟩ = false := B2.free 0
  have z1 : W3.frozen? ⟨w2.heap.size, 1, none⟩ = false := B2.free 1
  have z2 : W3.frozen? ⟨w2.heap.size, 2, none⟩ = false := B2.free 2
  clear S2 G2 hb3
  go_upto_region 3 with fail
  have S3 := S3.set ⟨w2.heap.size, 2, none⟩ (.int .i64 (1 + q)) (by simp; omega) (by simp; omega)
  have B1 := B1.far (p := ⟨w2.heap.size, 2, none⟩) (by simp; omega) (.int .i64 (1 + q))
  have B2 := B2.set 2 (.int .i64 (1 + q))
  have G3 := only_out G3 ⟨w2.heap.size, 2, none⟩ (.int .i64 (1 + q)) (by simp; omega)
  clear c0 c1 c2 z0 z1 z2
  generalize (W3.setCell ⟨w2.heap.size, 2, none⟩ (.int .i64 (1 + q))) = w3 at *
  go_wp2_with fail
  refine (one_any 2 S3 (by omega) (by omega)).mono ?_
  rintro e w4 ⟨⟨o, rfl⟩, S4, G4⟩
  have B1 := B1.grown G4 (by omega)
  have B2 := B2.grown G4 (by omega)
  have G4 := G3.trans G4
  clear S3 G3
  have hne : w.heap.size ≠ w2.heap.size := by omega
  cases o
  · have c0 : w4.cell? ⟨w2.heap.size, 0, none⟩ = some (.int .i64 (9000 + r)) := B2.cell 0
    have c1 : w4.cell? ⟨w2.heap.size, 1, none⟩ = some (.int .i64 (1 + q)) := B2.cell 1
    have c2 : w4.cell? ⟨w2.heap.size, 2, none⟩ = some (.int .i64 (1 + q)) := B2.cell 2
    have z0 : w4.frozen? ⟨w2.heap.size, 0, none⟩ = false := B2.free 0
    have z1 : w4.frozen? ⟨w2.heap.size, 1, none⟩ = false := B2.free 1
    have z2 : w4.frozen? ⟨w2.heap.size, 2, none⟩ = false := B2.free 2
    have d0 : w4.cell? ⟨w.heap.size, 0, none⟩ = some (.int .i64 0) := B1.cell 0
    have d1 : w4.cell? ⟨w.heap.size, 1, none⟩ = some (.int .i64 0) := B1.cell 1
    have d2 : w4.cell? ⟨w.heap.size, 2, none⟩ = some (.int .i64 0) := B1.cell 2
    have y0 : w4.frozen? ⟨w.heap.size, 0, none⟩ = false := B1.free 0
    have y1 : w4.frozen? ⟨w.heap.size, 1, none⟩ = false := B1.free 1
    have y2 : w4.frozen? ⟨w.heap.size, 2, none⟩ = false := B1.free 2
    have S6 := S4.up (m' := m + 8) (by omega)
    clear B1 B2 S4
    go_wp2
    refine bodyPost_ret (v := .agg #[.int .i64 (9000 + r), .int .i64 (1 + q), .int .i64 (1 + q)]) (by simp [results, Try.results91, go_sem, d0, d1, d2, hne]) rfl ?_
    exact ⟨⟨⟨9000 + r, 1 + q, 1 + q⟩, rfl⟩, (by repeat (first | (with_reducible assumption) | (with_reducible refine Src.set ?_ _ _ (by (try simp) <;> omega) (by (try simp) <;> omega)) | (with_reducible refine Src.below ?_ (Bel.alloc (Below.refl _ _) _)))), (by repeat (first | (with_reducible assumption) | (with_reducible refine only_out ?_ _ _ (by (try simp) <;> omega)) | (with_reducible refine only_below ?_ (Bel.alloc (Below.refl _ _) _))))⟩
  · have c0 : w4.cell? ⟨w2.heap.size, 0, none⟩ = some (.int .i64 (9000 + r)) := B2.cell 0
    have c1 : w4.cell? ⟨w2.heap.size, 1, none⟩ = some (.int .i64 (1 + q)) := B2.cell 1
    have c2 : w4.cell? ⟨w2.heap.size, 2, none⟩ = some (.int .i64 (1 + q)) := B2.cell 2
    have z0 : w4.frozen? ⟨w2.heap.size, 0, none⟩ = false := B2.free 0
    have z1 : w4.frozen? ⟨w2.heap.size, 1, none⟩ = false := B2.free 1
    have z2 : w4.frozen? ⟨w2.heap.size, 2, none⟩ = false := B2.free 2
    clear c0 c1 c2 z0 z1 z2
    go_wp2_with fail
    refine (pick_any 5 S4 (by omega) (by omega)).mono ?_
    rintro e w6 ⟨⟨t, rfl, t0, t1⟩, S6, G6⟩
    have t2 : t < 5 := by omega
    clear t1
    have B1 := B1.grown G6 (by omega)
    have B2 := B2.grown G6 (by omega)
    have G6 := G4.trans G6
    have c0 : w6.cell? ⟨w2.heap.size, 0, none⟩ = some (.int .i64 (9000 + r)) := B2.cell 0
    have c1 : w6.cell? ⟨w2.heap.size, 1, none⟩ = some (.int .i64 (1 + q)) := B2.cell 1
    have c2 : w6.cell? ⟨w2.heap.size, 2, none⟩ = some (.int .i64 (1 + q)) := B2.cell 2
    have z0 : w6.frozen? ⟨w2.heap.size, 0, none⟩ = false := B2.free 0
    have z1 : w6.frozen? ⟨w2.heap.size, 1, none⟩ = false := B2.free 1
    have z2 : w6.frozen? ⟨w2.heap.size, 2, none⟩ = false := B2.free 2
    have d0 : w6.cell? ⟨w.heap.size, 0, none⟩ = some (.int .i64 0) := B1.cell 0
    have d1 : w6.cell? ⟨w.heap.size, 1, none⟩ = some (.int .i64 0) := B1.cell 1
    have d2 : w6.cell? ⟨w.heap.size, 2, none⟩ = some (.int .i64 0) := B1.cell 2
    have y0 : w6.frozen? ⟨w.heap.size, 0, none⟩ = false := B1.free 0
    have y1 : w6.frozen? ⟨w.heap.size, 1, none⟩ = false := B1.free 1
    have y2 : w6.frozen? ⟨w.heap.size, 2, none⟩ = false := B1.free 2
    clear S4 G4 B1 B2
    have S6 := S6.up (m' := m + 8) (by omega)
    go_wp2
    refine bodyPost_ret (v := .agg #[.int .i64 (9000 + r), .int .i64 (1 + q), .int .i64 (1 + t)]) (by simp [results, Try.results91, go_sem, d0, d1, d2, hne]) rfl ?_
    exact ⟨⟨⟨9000 + r, 1 + q, 1 + t⟩, rfl⟩, (by repeat (first | (with_reducible assumption) | (with_reducible refine Src.set ?_ _ _ (by (try simp) <;> omega) (by (try simp) <;> omega)) | (with_reducible refine Src.below ?_ (Bel.alloc (Below.refl _ _) _)))), (by repeat (first | (with_reducible assumption) | (with_reducible refine only_out ?_ _ _ (by (try simp) <;> omega)) | (with_reducible refine only_below ?_ (Bel.alloc (Below.refl _ _) _))))⟩
theorem l20Bend_any {w : World} {base g m : Nat} (x : SVerified) (S : Src w base g m) (hm : m ≤ 10000000000) (hb : base ≤ w.heap.size) :
    Calls Try.prog 92 #[.pointer (some ⟨g, 0, none⟩), .agg #[.int .i64 x.Day, .int .i64 x.Told, .int .i64 x.Seen]] w fun e w' => (∃ y : SVerified, e = .returned (.agg #[.int .i64 y.Day, .int .i64 y.Told, .int .i64 y.Seen])) ∧ Src w' base g (m + 4) ∧ w.grownBy w' (some g) := by
  have hgl := S.lt
  go_enter Try.func92, Try.ntmps92
  go_wp2_with fail
  refine calls_box_out2 ?_
  intro W hbw B1 B2
  refine (pick_any 16 (S.below hbw) (by omega) (by omega)).mono ?_
  rintro e w1 ⟨⟨r, rfl, r0, r1⟩, S1, G1⟩
  have r2 : r < 16 := by omega
  clear r1
  have B1 := B1.grown G1 (by omega)
  have B2 := B2.grown G1 (by omega)
  have G1 := (Grown.bel hbw).trans G1
  clear S hbw
  by_cases e0 : r = 0
  · subst e0
    go_wp2_with fail
    refine calls_box_out ?_
    intro W3 hb3 B3
    have B1 := B1.below hb3
    have B2 := B2.below hb3
    have G2 := only_below G1 hb3
    have hl1 := B2.lt
    have hgl1 := S1.lt
    refine (among_any [-1, 0, 36524, 36525] w1.heap.size 4 (S1.below hb3) (by omega) (by decide) (by decide) B3 (by omega)).mono ?_
    rintro e w4 ⟨⟨q, rfl, hq⟩, S4, G4⟩
    have B1 := B1.grown G4 (by omega)
    have B2 := B2.grown G4 (by omega)
    have G4 := G2.trans G4
    clear S1 G1 G2 hb3 B3
    simp only [List.mem_cons, List.not_mem_nil, or_false] at hq
    have c0 : w4.cell? ⟨w.heap.size, 0, none⟩ = some (.int .i64 x.Day) := B1.cell 0
    have c1 : w4.cell? ⟨w.heap.size, 1, none⟩ = some (.int .i64 x.Told) := B1.cell 1
    have c2 : w4.cell? ⟨w.heap.size, 2, none⟩ = some (.int .i64 x.Seen) := B1.cell 2
    have z0 : w4.frozen? ⟨w.heap.size, 0, none⟩ = false := B1.free 0
    have z1 : w4.frozen? ⟨w.heap.size, 1, none⟩ = false := B1.free 1
    have z2 : w4.frozen? ⟨w.heap.size, 2, none⟩ = false := B1.free 2
    have d0 : w4.cell? ⟨w.heap.size + 1, 0, none⟩ = some (.int .i64 0) := B2.cell 0
    have d1 : w4.cell? ⟨w.heap.size + 1, 1, none⟩ = some (.int .i64 0) := B2.cell 1
    have d2 : w4.cell? ⟨w.heap.size + 1, 2, none⟩ = some (.int .i64 0) := B2.cell 2
    have y0 : w4.frozen? ⟨w.heap.size + 1, 0, none⟩ = false := B2.free 0
    have y1 : w4.frozen? ⟨w.heap.size + 1, 1, none⟩ = false := B2.free 1
    have y2 : w4.frozen? ⟨w.heap.size + 1, 2, none⟩ = false := B2.free 2
    clear B1 B2
    have S9 := S4.up (m' := m + 4) (by omega)
    clear S4
    go_wp2
    refine bodyPost_ret (v := .agg #[.int .i64 q, .int .i64 x.Told, .int .i64 x.Seen]) (by simp [results, Try.results92, go_sem, d0, d1, d2]) rfl ?_
    exact ⟨⟨⟨q, x.Told, x.Seen⟩, rfl⟩, (by repeat (first | (with_reducible assumption) | (with_reducible refine Src.set ?_ _ _ (by (try simp) <;> omega) (by (try simp) <;> omega)) | (with_reducible refine Src.below ?_ (Bel.alloc (Below.refl _ _) _)))), (by repeat (first | (with_reducible assumption) | (with_reducible refine only_out ?_ _ _ (by (try simp) <;> omega)) | (with_reducible refine only_below ?_ (Bel.alloc (Below.refl _ _) _))))⟩
  by_cases e1 : r = 1
  · subst e1
    go_wp2_with fail
    refine calls_box_out ?_
    intro W3 hb3 B3
    have B1 := B1.below hb3
    have B2 := B2.below hb3
    have G2 := only_below G1 hb3
    have hl1 := B2.lt
    have hgl1 := S1.lt
    refine (among_any [0, 5, 6] w1.heap.size 3 (S1.below hb3) (by omega) (by decide) (by decide) B3 (by omega)).mono ?_
    rintro e w4 ⟨⟨q, rfl, hq⟩, S4, G4⟩
    have B1 := B1.grown G4 (by omega)
    have B2 := B2.grown G4 (by omega)
    have G4 := G2.trans G4
    clear S1 G1 G2 hb3 B3
    simp only [List.mem_cons, List.not_mem_nil, or_false] at hq
    have c0 : w4.cell? ⟨w.heap.size, 0, none⟩ = some (.int .i64 x.Day) := B1.cell 0
    have c1 : w4.cell? ⟨w.heap.size, 1, none⟩ = some (.int .i64 x.Told) := B1.cell 1
    have c2 : w4.cell? ⟨w.heap.size, 2, none⟩ = some (.int .i64 x.Seen) := B1.cell 2
    have z0 : w4.frozen? ⟨w.heap.size, 0, none⟩ = false := B1.free 0
    have z1 : w4.frozen? ⟨w.heap.size, 1, none⟩ = false := B1.free 1
    have z2 : w4.frozen? ⟨w.heap.size, 2, none⟩ = false := B1.free 2
    have d0 : w4.cell? ⟨w.heap.size + 1, 0, none⟩ = some (.int .i64 0) := B2.cell 0
    have d1 : w4.cell? ⟨w.heap.size + 1, 1, none⟩ = some (.int .i64 0) := B2.cell 1
    have d2 : w4.cell? ⟨w.heap.size + 1, 2, none⟩ = some (.int .i64 0) := B2.cell 2
    have y0 : w4.frozen? ⟨w.heap.size + 1, 0, none⟩ = false := B2.free 0
    have y1 : w4.frozen? ⟨w.heap.size + 1, 1, none⟩ = false := B2.free 1
    have y2 : w4.frozen? ⟨w.heap.size + 1, 2, none⟩ = false := B2.free 2
    clear B1 B2
    have S9 := S4.up (m' := m + 4) (by omega)
    clear S4
    go_wp2
    refine bodyPost_ret (v := .agg #[.int .i64 x.Day, .int .i64 q, .int .i64 x.Seen]) (by simp [results, Try.results92, go_sem, d0, d1, d2]) rfl ?_
    exact ⟨⟨⟨x.Day, q, x.Seen⟩, rfl⟩, (by repeat (first | (with_reducible assumption) | (with_reducible refine Src.set ?_ _ _ (by (try simp) <;> omega) (by (try simp) <;> omega)) | (with_reducible refine Src.below ?_ (Bel.alloc (Below.refl _ _) _)))), (by repeat (first | (with_reducible assumption) | (with_reducible refine only_out ?_ _ _ (by (try simp) <;> omega)) | (with_reducible refine only_below ?_ (Bel.alloc (Below.refl _ _) _))))⟩
  by_cases e2 : r = 2
  · subst e2
    go_wp2_with fail
    refine calls_box_out ?_
    intro W3 hb3 B3
    have B1 := B1.below hb3
    have B2 := B2.below hb3
    have G2 := only_below G1 hb3
    have hl1 := B2.lt
    have hgl1 := S1.lt
    refine (among_any [0, 5, 6] w1.heap.size 3 (S1.below hb3) (by omega) (by decide) (by decide) B3 (by omega)).mono ?_
    rintro e w4 ⟨⟨q, rfl, hq⟩, S4, G4⟩
    have B1 := B1.grown G4 (by omega)
    have B2 := B2.grown G4 (by omega)
    have G4 := G2.trans G4
    clear S1 G1 G2 hb3 B3
    simp only [List.mem_cons, List.not_mem_nil, or_false] at hq
    have c0 : w4.cell? ⟨w.heap.size, 0, none⟩ = some (.int .i64 x.Day) := B1.cell 0
    have c1 : w4.cell? ⟨w.heap.size, 1, none⟩ = some (.int .i64 x.Told) := B1.cell 1
    have c2 : w4.cell? ⟨w.heap.size, 2, none⟩ = some (.int .i64 x.Seen) := B1.cell 2
    have z0 : w4.frozen? ⟨w.heap.size, 0, none⟩ = false := B1.free 0
    have z1 : w4.frozen? ⟨w.heap.size, 1, none⟩ = false := B1.free 1
    have z2 : w4.frozen? ⟨w.heap.size, 2, none⟩ = false := B1.free 2
    have d0 : w4.cell? ⟨w.heap.size + 1, 0, none⟩ = some (.int .i64 0) := B2.cell 0
    have d1 : w4.cell? ⟨w.heap.size + 1, 1, none⟩ = some (.int .i64 0) := B2.cell 1
    have d2 : w4.cell? ⟨w.heap.size + 1, 2, none⟩ = some (.int .i64 0) := B2.cell 2
    have y0 : w4.frozen? ⟨w.heap.size + 1, 0, none⟩ = false := B2.free 0
    have y1 : w4.frozen? ⟨w.heap.size + 1, 1, none⟩ = false := B2.free 1
    have y2 : w4.frozen? ⟨w.heap.size + 1, 2, none⟩ = false := B2.free 2
    clear B1 B2
    have S9 := S4.up (m' := m + 4) (by omega)
    clear S4
    go_wp2
    refine bodyPost_ret (v := .agg #[.int .i64 x.Day, .int .i64 x.Told, .int .i64 q]) (by simp [results, Try.results92, go_sem, d0, d1, d2]) rfl ?_
    exact ⟨⟨⟨x.Day, x.Told, q⟩, rfl⟩, (by repeat (first | (with_reducible assumption) | (with_reducible refine Src.set ?_ _ _ (by (try simp) <;> omega) (by (try simp) <;> omega)) | (with_reducible refine Src.below ?_ (Bel.alloc (Below.refl _ _) _)))), (by repeat (first | (with_reducible assumption) | (with_reducible refine only_out ?_ _ _ (by (try simp) <;> omega)) | (with_reducible refine only_below ?_ (Bel.alloc (Below.refl _ _) _))))⟩
  have f0 : (r == 0) = false := by simpa using e0
  have f1 : (r == 1) = false := by simpa using e1
  have f2 : (r == 2) = false := by simpa using e2
  have c0 : w1.cell? ⟨w.heap.size, 0, none⟩ = some (.int .i64 x.Day) := B1.cell 0
  have c1 : w1.cell? ⟨w.heap.size, 1, none⟩ = some (.int .i64 x.Told) := B1.cell 1
  have c2 : w1.cell? ⟨w.heap.size, 2, none⟩ = some (.int .i64 x.Seen) := B1.cell 2
  have z0 : w1.frozen? ⟨w.heap.size, 0, none⟩ = false := B1.free 0
  have z1 : w1.frozen? ⟨w.heap.size, 1, none⟩ = false := B1.free 1
  have z2 : w1.frozen? ⟨w.heap.size, 2, none⟩ = false := B1.free 2
  have d0 : w1.cell? ⟨w.heap.size + 1, 0, none⟩ = some (.int .i64 0) := B2.cell 0
  have d1 : w1.cell? ⟨w.heap.size + 1, 1, none⟩ = some (.int .i64 0) := B2.cell 1
  have d2 : w1.cell? ⟨w.heap.size + 1, 2, none⟩ = some (.int .i64 0) := B2.cell 2
  have y0 : w1.frozen? ⟨w.heap.size + 1, 0, none⟩ = false := B2.free 0
  have y1 : w1.frozen? ⟨w.heap.size + 1, 1, none⟩ = false := B2.free 1
  have y2 : w1.frozen? ⟨w.heap.size + 1, 2, none⟩ = false := B2.free 2
  clear B1 B2
  have S9 := S1.up (m' := m + 4) (by omega)
  clear S1
  go_wp2
  refine bodyPost_ret (v := .agg #[.int .i64 x.Day, .int .i64 x.Told, .int .i64 x.Seen]) (by simp [results, Try.results92, go_sem, d0, d1, d2]) rfl ?_
  exact ⟨⟨x, rfl⟩, (by repeat (first | (with_reducible assumption) | (with_reducible refine Src.set ?_ _ _ (by (try simp) <;> omega) (by (try simp) <;> omega)) | (with_reducible refine Src.below ?_ (Bel.alloc (Below.refl _ _) _)))), (by repeat (first | (with_reducible assumption) | (with_reducible refine only_out ?_ _ _ (by (try simp) <;> omega)) | (with_reducible refine only_below ?_ (Bel.alloc (Below.refl _ _) _))))⟩
theorem l20Draw_any {w : World} {base g m : Nat} (S : Src w base g m) (hm : m ≤ 1000000000) (hb : base ≤ w.heap.size) :
    Calls Try.prog 59 #[.pointer (some ⟨g, 0, none⟩)] w fun e w' => (∃ (xs : List SVerified) (v : Value), e = .returned v ∧ xs.length ≤ 70 ∧ Row SVerified.cells 3 55 w' w.heap.size v xs ∧ v.ownBlock ≠ none) ∧ Src w' base g (m + 200) ∧ w.grownBy w' (some g) := by
  have hgl := S.lt
  go_enter Try.func59, Try.ntmps59
  go_wp2_with fail
  refine calls_box_out ?_
  intro W hbw B1
  refine (pick_any 12 (S.below hbw) (by omega) (by omega)).mono ?_
  rintro e w1 ⟨⟨r, rfl, r0, r1⟩, S1, G1⟩
  have r2 : r < 12 := by omega
  clear r1
  have B1 := B1.grown G1 (by omega)
  have G1 := (Grown.bel hbw).trans G1
  obtain ⟨k, rfl⟩ := Int.eq_ofNat_of_zero_le r0
  have R1 : Row SVerified.cells 3 55 w1 w.heap.size (.slice (some ⟨w.heap.size, 0, none⟩) 0 0) [] := Row.ofBox B1 (Nat.le_refl _)
  clear B1 S hbw
  have HR1 := Lib.hid R1
  have HS1 := Lib.hid S1
  have HG1 := Lib.hid G1
  clear R1 S1 G1
  go_wp2_with fail
  go_loopw [3, 4, 5, 6] (fun v i _ _ wr => ∃ (j : Nat) (ys : List SVerified), j ≤ 11 ∧ i = .int .i64 j ∧ ys.length + j ≤ 11 ∧ Row SVerified.cells 3 55 wr w.heap.size v ys ∧ v.ownBlock ≠ none ∧ Src wr base g (m + 2 + 8 * (11 - j)) ∧ w.grownBy wr (some g)) (fun _ i _ _ wr => (intOf i).toNat)
  case atStart => exact ⟨k, [], by omega, rfl, by simp; omega, HR1.out, by simp [Value.ownBlock], HS1.out.up (by omega), HG1.out⟩
  case round =>
    clear HR1 HS1 HG1
    obtain ⟨j, ys, hj, rfl, hys, R, hno, S, G⟩ := hrel
    have hsz := G.size
    have hgr := S.lt
    by_cases hlt : 0 < j
    · obtain ⟨bb, cc, rfl, hbb, hcc, HA⟩ := R.arrC hno (fun _ => rfl)
      have HR := Lib.hid R
      have HG := Lib.hid G
      have HN := Lib.hid hno
      clear R G hno HA
      go_wp2_with fail
      refine (l20DrawOne_any S (by omega) (by omega)).mono ?_
      rintro e w2 ⟨⟨x, rfl⟩, S2, G2⟩
      have HS2 := Lib.hid S2
      have HR := Lib.hid (HR.out.grownBelow G2 hgl)
      have HG := Lib.hid (HG.out.trans G2)
      have hsz2 := HG.out.size
      clear S S2 G2
      obtain ⟨b', c', e2, -, -, hA⟩ := HR.out.arrC HN.out (fun _ => rfl)
      simp only [Value.slice.injEq, Option.some.injEq, Addr.mk.injEq] at e2
      obtain ⟨⟨rfl, -⟩, -, rfl⟩ := e2
      have HA := Lib.hid hA
      clear hA
      go_wp2_with fail
      refine (addVerified_any ys bb cc x _ HA.out hcc (by omega)).mono ?_
      rintro e w3 ⟨⟨zs, v3, q, rfl, hq⟩, hb3⟩
      have HS2 := Lib.hid (HS2.out.below hb3)
      have HR := Lib.hid (HR.out.below hb3)
      have HG := Lib.hid (only_below HG.out hb3)
      have HQ := Lib.hid hq
      clear HA hq
      by_cases h0 : q = 0
      · subst h0
        have h00 : ((0 : Int) == 0) = true := rfl
        go_wp2
        obtain ⟨g1, g2, g3⟩ := HQ.out (by simp)
        go_roundw
        case rel => exact ⟨j - 1, zs, by omega, by go_num, by omega, g2.lower hsz2, g3, HS2.out.up (by omega), HG.out⟩
        case measure => simp [intOf]; omega
      · have h00 : (q == 0) = false := beq_eq_false_iff_ne.mpr h0
        clear h0
        go_wp2
        go_roundw
        case rel => exact ⟨j - 1, ys, by omega, by go_num, by omega, HR.out, HN.out, HS2.out.up (by omega), HG.out⟩
        case measure => simp [intOf]; omega
    · obtain rfl : j = 0 := by omega
      have HR := Lib.hid R
      have HN := Lib.hid hno
      have HG := Lib.hid G
      clear R G hno
      go_wp2_with fail
      refine (pick_any 20 S (by omega) (by omega)).mono ?_
      rintro e w2 ⟨⟨r, rfl, r0, r1⟩, S2, G2⟩
      have r2 : r < 20 := by omega
      clear r1
      have HR := Lib.hid (HR.out.grownBelow G2 hgl)
      have G2 := HG.out.trans G2
      have hsz2 := G2.size
      clear S HG
      by_cases e0 : r = 0
      · subst e0
        go_wp2_with fail
        refine (l20DrawOne_any S2 (by omega) (by omega)).mono ?_
        rintro e w3 ⟨⟨x, rfl⟩, S3, G3⟩
        have HR := Lib.hid (HR.out.grownBelow G3 hgl)
        have G3 := G2.trans G3
        have hsz3 := G3.size
        clear S2 G2
        go_wp2_with fail
        refine (l20Bend_any x S3 (by omega) (by omega)).mono ?_
        rintro e w4 ⟨⟨y, rfl⟩, S4, G4⟩
        have HR := Lib.hid (HR.out.grownBelow G4 hgl)
        have G4 := G3.trans G4
        have hsz4 := G4.size
        have HG := Lib.hid G4
        have HS := Lib.hid S4
        clear S3 G3 G4 S4
        go_wp2_with (at_builtin; refine wpList_pushVerifiedR rfl _ _ 44 rfl w.heap.size 55 Try.underlying44 (by kernel_rfl) u3 ys y rfl HR.out 1 rfl (by omega) hsz4 ?_; intro v' w5 hr5 hb5)
        go_ret
        exact ⟨⟨ys ++ [y], v', rfl, by rw [List.length_append]; simp; omega, hr5, hr5.own_some (by simp)⟩, (HS.out.upto hb5 hgl hb).up (by omega), Grown.upto HG.out hb5⟩
      by_cases e1 : r = 1
      · subst e1
        clear HR HN
        go_wp2_with fail
        refine calls_box_out ?_
        intro W3 hb3 B3
        have G3 := only_below G2 hb3
        have hgl2 := S2.lt
        refine (among_any [64, 65] w2.heap.size 2 (S2.below hb3) (by omega) (by decide) (by decide) B3 (by omega)).mono ?_
        rintro e w4 ⟨⟨q, rfl, hq⟩, S4, G4⟩
        have G4 := G3.trans G4
        have hsz4 := G4.size
        clear S2 G2 G3 hb3 B3
        simp only [List.mem_cons, List.not_mem_nil, or_false] at hq
        obtain ⟨n, rfl, hn⟩ : ∃ n : Nat, q = n ∧ n ≤ 65 := ⟨q.toNat, by omega, by omega⟩
        clear hq
        have HS := Lib.hid S4
        have HG := Lib.hid G4
        clear S4 G4
        go_wp2_with fail
        refine wp_box_out ?_
        intro W5 hb5 B5
        have R5 : Row SVerified.cells 3 55 W5 w.heap.size (.slice (some ⟨w4.heap.size, 0, none⟩) 0 0) [] := Row.ofBox B5 (by omega)
        have HR5 := Lib.hid R5
        have HS5 := Lib.hid (HS.out.below hb5)
        have HG5 := Lib.hid (only_below HG.out hb5)
        clear R5 HS HG hb5 B5
        go_loopw [3, 8] (fun v i wr => ∃ (j : Nat) (ys : List SVerified), j ≤ n ∧ i = .int .i64 j ∧ ys.length = j ∧ Row SVerified.cells 3 55 wr w.heap.size v ys ∧ v.ownBlock ≠ none ∧ Src wr base g (m + 200) ∧ w.grownBy wr (some g)) (fun _ i wr => n - (intOf i).toNat)
        case atStart => exact ⟨0, [], by omega, rfl, rfl, HR5.out, by simp [Value.ownBlock], HS5.out.up (by omega), HG5.out⟩
        case round =>
          clear HR5 HS5 HG5
          obtain ⟨j, ys, hj, rfl, hys, R, hno, S, G⟩ := hrel
          have hsz := G.size
          have HR := Lib.hid R
          have HG := Lib.hid G
          have HS := Lib.hid S
          have HN := Lib.hid hno
          clear R G S hno
          by_cases hlt : j < n
          · have t5 : Int.tmod (j : Int) 5 = (j : Int) % 5 := Int.tmod_eq_emod_of_nonneg (by omega)
            have t3 : Int.tmod (j : Int) 3 = (j : Int) % 3 := Int.tmod_eq_emod_of_nonneg (by omega)
            go_wp2_with (at_builtin; refine wpList_pushVerifiedR rfl _ _ 44 rfl w.heap.size 55 Try.underlying44 (by kernel_rfl) u3 ys ⟨j, 1 + (j : Int) % 5, 1 + (j : Int) % 3⟩ rfl HR.out 1 rfl (by omega) hsz ?_; intro v' w3 hr3 hb3)
            go_roundw
            case rel => exact ⟨j + 1, _, by omega, by go_num, by rw [List.length_append]; simp; omega, hr3, hr3.own_some (by simp), HS.out.upto hb3 hgl hb, Grown.upto HG.out hb3⟩
            case measure => simp [intOf]; omega
          · go_wp2
            go_ret
            exact ⟨⟨ys, _, rfl, by omega, HR.out, HN.out⟩, HS.out, HG.out⟩
      have f0 : (r == 0) = false := by simpa using e0
      have f1 : (r == 1) = false := by simpa using e1
      by_cases e2 : r = 2
      · subst e2
        obtain ⟨bb, cc, rfl, hbb, hcc, HA⟩ := HR.out.arrC HN.out (fun _ => rfl)
        have HS := Lib.hid S2
        have HG := Lib.hid G2
        clear S2 G2 HA
        go_wp2_with fail
        go_loopw [9] (fun i wr => ∃ (k : Nat) (zs : List SVerified), k ≤ ys.length ∧ i = .int .i64 k ∧ zs.length = ys.length ∧ Row SVerified.cells 3 55 wr w.heap.size (.slice (some ⟨bb, 0, none⟩) ys.length cc) zs ∧ Src wr base g (m + 200) ∧ w.grownBy wr (some g)) (fun i wr => ys.length - (intOf i).toNat)
        case atStart => exact ⟨0, ys, by omega, rfl, rfl, HR.out, HS.out.up (by omega), HG.out⟩
        case round =>
          clear HR HS HG
          obtain ⟨k, zs, hk, rfl, hzl, R, S, G⟩ := hrel
          have HZL := Lib.hid hzl
          by_cases hlt : k < ys.length
          · have hkz : k < zs.length := by omega
            have c1 := Row.at0 (cs := SVerified.cells) (sz := 3) (fun _ => rfl) R hkz (j := 1) (v := .int .i64 zs[k].Told) rfl
            have c2 := Row.at0 (cs := SVerified.cells) (sz := 3) (fun _ => rfl) R hkz (j := 2) (v := .int .i64 zs[k].Seen) rfl
            have z1 := R.free (k * 3 + 1)
            have z2 := R.free (k * 3 + 2)
            have R1 := Row.setF (cs := SVerified.cells) (sz := 3) (fun _ => rfl) (by omega) R (i := k) (j := 1) (y := ⟨zs[k].Day, 2, zs[k].Seen⟩) (u := .int .i64 2) hkz (by omega) (by simp [SVerified.cells])
            have R2 := Row.setF (cs := SVerified.cells) (sz := 3) (fun _ => rfl) (by omega) R1 (i := k) (j := 2) (y := ⟨zs[k].Day, 2, 2⟩) (u := .int .i64 2) (by rw [List.length_set]; exact hkz) (by omega) (by rw [List.getElem_set_self]; simp [SVerified.cells])
            have HR := Lib.hid R2
            have HS := Lib.hid ((S.set ⟨bb, k * 3 + 1, none⟩ (.int .i64 2) (by simp; omega) (by simp; omega)).set ⟨bb, k * 3 + 2, none⟩ (.int .i64 2) (by simp; omega) (by simp; omega))
            have HG := Lib.hid (only_out (only_out G ⟨bb, k * 3 + 1, none⟩ (.int .i64 2) (by simp; omega)) ⟨bb, k * 3 + 2, none⟩ (.int .i64 2) (by simp; omega))
            clear R R1 R2 S G hzl
            go_wp2
            go_roundw
            case rel => exact ⟨k + 1, _, by omega, by go_num, by rw [List.length_set, List.length_set, HZL.out], HR.out, HS.out, HG.out⟩
            case measure => simp [intOf]; omega
          · have HR := Lib.hid R
            have HS := Lib.hid S
            have HG := Lib.hid G
            clear R S G hzl
            go_wp2
            go_ret
            exact ⟨⟨zs, _, rfl, by have := HZL.out; omega, HR.out, by simp [Value.ownBlock]⟩, HS.out, HG.out⟩
      have f2 : (r == 2) = false := by simpa using e2
      have HS := Lib.hid S2
      have HG := Lib.hid G2
      clear S2 G2
      go_wp2
      go_ret
      exact ⟨⟨ys, _, rfl, by omega, HR.out, HN.out⟩, HS.out.up (by omega), HG.out⟩
theorem DrawHitShare_any {w : World} (A : Option Addr) (n c : Nat) (hn : n ≤ 1048576) (hnc : n ≤ c) (hc : c ≤ 9223372036854775807) (hby : Bytes9 w w.heap.size A n) :
    Calls Try.prog 20 #[.slice A n c] w fun e w' => (∃ (xs : List SVerified) (b d : Nat) (x : Int), e = .returned (.tuple #[.slice (some ⟨b, 0, none⟩) xs.length d, .int .i64 x]) ∧ xs.length ≤ 70 ∧ -1 ≤ x ∧ x ≤ 10 ∧ Arr SVerified.cells 3 w' b xs) ∧ Below w.heap.size w w' := by
  have HBY := Lib.hid hby
  clear hby
  go_enter Try.func20, Try.ntmps20
  go_wp2_with fail
  refine (fromS_any A n c (Nat.le_refl _) hn hnc hc HBY.out).mono ?_
  rintro e w1 ⟨rfl, S1, hb1⟩
  have hle := hb1.size
  have hgl := S1.lt
  go_wp2_with fail
  refine (l20Draw_any S1 (by omega) hle).mono ?_
  rintro e w2 ⟨⟨xs, v, rfl, hx, R, hno⟩, S2, G2⟩
  have hle2 := G2.size
  obtain ⟨b, d, rfl, hbg, HA⟩ := R.arr hno (fun _ => rfl)
  have HR := Lib.hid R
  have HB := Lib.hid (below_of_grown G2 hle (Nat.le_refl _))
  clear R S1 G2 hno HA HBY
  have HB1 := Lib.hid hb1
  clear hb1
  go_wp2_with fail
  refine (pick_any 7 S2 (by omega) (by omega)).mono ?_
  rintro e w3 ⟨⟨r, rfl, r0, r1⟩, S3, G3⟩
  have r2 : r < 7 := by omega
  clear r1
  have hle3 := G3.size
  have HR := Lib.hid (HR.out.grownBelow G3 (by omega))
  have HB := Lib.hid (HB.out.trans (below_of_grown G3 (by omega) (Nat.le_refl _)))
  clear S2 G3 S3
  go_wp2
  go_ret2
  obtain ⟨b', d', e2, -, HA⟩ := HR.out.arr (by simp [Value.ownBlock]) (fun _ => rfl)
  simp only [Value.slice.injEq, Option.some.injEq, Addr.mk.injEq] at e2
  obtain ⟨⟨rfl, -⟩, -, rfl⟩ := e2
  exact ⟨⟨xs, b, d, _, rfl, hx, by omega, by omega, HA⟩, HB1.out.trans HB.out⟩
theorem DrawMissedHigh_any {w : World} (A : Option Addr) (n c : Nat) (hn : n ≤ 1048576) (hnc : n ≤ c) (hc : c ≤ 9223372036854775807) (hby : Bytes9 w w.heap.size A n) :
    Calls Try.prog 25 #[.slice A n c] w fun e w' => (∃ (xs : List SVerified) (b d : Nat) (x : Int), e = .returned (.tuple #[.slice (some ⟨b, 0, none⟩) xs.length d, .int .i64 x]) ∧ xs.length ≤ 70 ∧ -1 ≤ x ∧ x ≤ 10 ∧ Arr SVerified.cells 3 w' b xs) ∧ Below w.heap.size w w' := by
  have HBY := Lib.hid hby
  clear hby
  go_enter Try.func25, Try.ntmps25
  go_wp2_with fail
  refine (fromS_any A n c (Nat.le_refl _) hn hnc hc HBY.out).mono ?_
  rintro e w1 ⟨rfl, S1, hb1⟩
  have hle := hb1.size
  have hgl := S1.lt
  go_wp2_with fail
  refine (l20Draw_any S1 (by omega) hle).mono ?_
  rintro e w2 ⟨⟨xs, v, rfl, hx, R, hno⟩, S2, G2⟩
  have hle2 := G2.size
  obtain ⟨b, d, rfl, hbg, HA⟩ := R.arr hno (fun _ => rfl)
  have HR := Lib.hid R
  have HB := Lib.hid (below_of_grown G2 hle (Nat.le_refl _))
  clear R S1 G2 hno HA HBY
  have HB1 := Lib.hid hb1
  clear hb1
  go_wp2_with fail
  refine (pick_any 7 S2 (by omega) (by omega)).mono ?_
  rintro e w3 ⟨⟨r, rfl, r0, r1⟩, S3, G3⟩
  have r2 : r < 7 := by omega
  clear r1
  have hle3 := G3.size
  have HR := Lib.hid (HR.out.grownBelow G3 (by omega))
  have HB := Lib.hid (HB.out.trans (below_of_grown G3 (by omega) (Nat.le_refl _)))
  clear S2 G3 S3
  go_wp2
  go_ret2
  obtain ⟨b', d', e2, -, HA⟩ := HR.out.arr (by simp [Value.ownBlock]) (fun _ => rfl)
  simp only [Value.slice.injEq, Option.some.injEq, Addr.mk.injEq] at e2
  obtain ⟨⟨rfl, -⟩, -, rfl⟩ := e2
  exact ⟨⟨xs, b, d, _, rfl, hx, by omega, by omega, HA⟩, HB1.out.trans HB.out⟩
end Go.Proofs.Ytcjalooaikfkbaa
