/- Chapter 12: what the drawing functions of parts hand back (a row of parts), and that they change their source alone. -/
import Derived.Test.YtcjalooaikfkbaaSrcR
import Derived.Test.YtcjalooaikfkbaaL12
namespace Go.Proofs.Ytcjalooaikfkbaa
set_option linter.unusedSimpArgs false
set_option linter.unusedVariables false
open Go.RowKit
set_option maxHeartbeats 800000
theorem wpList_pushP {P : Program} {ops : Array Oper} {rest : List Oper} {o : Oper} {a : Act} {Q : Exit → Act → World → Prop} {w : World} (hgd : o.guard = none) (s x : Operand) (t : TypeId)
    (ho : o.op = .call { callee := .builtin .append, args := #[s, x], argTypes := #[t, t] }) (base : Nat) (e : TypeId) (ht : P.underlying t = some (.slice e))
    (hi : (P.info? e).map (fun i => (i.zero, i.size, i.bytes)) = some (some (.agg #[.int .i64 0, .int .i64 0, .int .i64 0, .int .i64 0]), 4, 32))
    (v : Value) (ys : List SPart) (y : SPart) (hs : a.eval s = v) (R : Row SPart.cells 4 e w base v ys) (c : Nat) (hx : a.eval x = .slice (some ⟨w.heap.size, 0, none⟩) 1 c) (hn : ys.length ≤ 1048577) (hbase : base ≤ w.heap.size)
    (h : ∀ v' w', Row SPart.cells 4 e w' base v' (ys ++ [y]) → Below base w w' → wpList P ops Q rest (a.put o.dst v') w') :
    wpList P ops Q (o :: rest) a (w.alloc (.cells #[.int .i64 y.Length, .int .i64 y.Width, .int .i64 y.Depth, .int .i64 y.Density] e)) := by
  refine wpList_push hgd s x t ho base e (.agg #[.int .i64 0, .int .i64 0, .int .i64 0, .int .i64 0]) 4 32 ht hi rfl (by decide) (by decide) SPart.cells v ys y hs (R.alloc _) w.heap.size c hx rfl (fun j u hu => ?_) (fun u hu => ?_) hn (by simp; omega) fun v' w' hr hg hb => h v' w' hr ?_
  · rw [(Box.new w e #[.int .i64 y.Length, .int .i64 y.Width, .int .i64 y.Depth, .int .i64 y.Density]).cell j]; simpa [SPart.cells] using hu
  · simp only [SPart.cells, List.mem_cons, List.not_mem_nil, or_false] at hu
    rcases hu with rfl | rfl | rfl | rfl <;> rfl
  · exact ((Below.refl base w).alloc hbase _).trans hb
theorem l12DrawOne_any {w : World} {base g m : Nat} (S : Src w base g m) (hm : m ≤ 10000000000) (hb : base ≤ w.heap.size) :
    Calls Try.prog 81 #[.pointer (some ⟨g, 0, none⟩)] w fun e w' => (∃ x : SPart, e = .returned (.agg #[.int .i64 x.Length, .int .i64 x.Width, .int .i64 x.Depth, .int .i64 x.Density])) ∧ Src w' base g (m + 8) ∧ w.grownBy w' (some g) := by
  have hgl := S.lt
  go_enter Try.func81, Try.ntmps81
  go_wp2_with fail
  refine calls_box_out ?_
  intro W hbw B1
  refine (pick_any 80 (S.below hbw) (by omega) (by omega)).mono ?_
  rintro e w1 ⟨⟨r, rfl, r0, r1⟩, S1, G1⟩
  have r2 : r < 80 := by omega
  clear r1
  have B1 := B1.grown G1 (by omega)
  have G1 := (Grown.bel hbw).trans G1
  go_wp2_with fail
  refine (pick_any 40 S1 (by omega) (by omega)).mono ?_
  rintro e w2 ⟨⟨q, rfl, q0, q1⟩, S2, G2⟩
  have q2 : q < 40 := by omega
  clear q1
  have B1 := B1.grown G2 (by omega)
  have G2 := G1.trans G2
  have hl2 := B1.lt
  have hgl2 := S2.lt
  clear S1 G1
  go_wp2_with fail
  refine calls_box_out ?_
  intro W3 hb3 B2
  have B1 := B1.below hb3
  have G3 := only_below G2 hb3
  refine (pick_any 40 (S2.below hb3) (by omega) (by omega)).mono ?_
  rintro e w4 ⟨⟨s, rfl, s0, s1⟩, S4, G4⟩
  have s2 : s < 40 := by omega
  clear s1
  have B1 := B1.grown G4 (by omega)
  have B2 := B2.grown G4 (by omega)
  have G4 := G3.trans G4
  clear S2 G2 G3 hb3
  have c0 : w4.cell? ⟨w2.heap.size, 0, none⟩ = some (.int .i64 (10 + 10 * r)) := B2.cell 0
  have c1 : w4.cell? ⟨w2.heap.size, 1, none⟩ = some (.int .i64 (5 + 5 * q)) := B2.cell 1
  have c2 : w4.cell? ⟨w2.heap.size, 2, none⟩ = some (.int .i64 0) := B2.cell 2
  have c3 : w4.cell? ⟨w2.heap.size, 3, none⟩ = some (.int .i64 0) := B2.cell 3
  have z0 : w4.frozen? ⟨w2.heap.size, 0, none⟩ = false := B2.free 0
  have z1 : w4.frozen? ⟨w2.heap.size, 1, none⟩ = false := B2.free 1
  have z2 : w4.frozen? ⟨w2.heap.size, 2, none⟩ = false := B2.free 2
  have z3 : w4.frozen? ⟨w2.heap.size, 3, none⟩ = false := B2.free 3
  go_wp2_with fail
  have S4 := S4.set ⟨w2.heap.size, 2, none⟩ (.int .i64 (5 * s)) (by simp; omega) (by simp; omega)
  have B1 := B1.far (p := ⟨w2.heap.size, 2, none⟩) (by simp; omega) (.int .i64 (5 * s))
  have B2 := B2.set 2 (.int .i64 (5 * s))
  have G4 := only_out G4 ⟨w2.heap.size, 2, none⟩ (.int .i64 (5 * s)) (by simp; omega)
  clear c0 c1 c2 c3 z0 z1 z2 z3
  generalize (w4.setCell ⟨w2.heap.size, 2, none⟩ (.int .i64 (5 * s))) = w5 at *
  refine (pick_any 30 S4 (by omega) (by omega)).mono ?_
  rintro e w6 ⟨⟨t, rfl, t0, t1⟩, S6, G6⟩
  have t2 : t < 30 := by omega
  clear t1
  have B1 := B1.grown G6 (by omega)
  have B2 := B2.grown G6 (by omega)
  have G6 := G4.trans G6
  have c0 : w6.cell? ⟨w2.heap.size, 0, none⟩ = some (.int .i64 (10 + 10 * r)) := B2.cell 0
  have c1 : w6.cell? ⟨w2.heap.size, 1, none⟩ = some (.int .i64 (5 + 5 * q)) := B2.cell 1
  have c2 : w6.cell? ⟨w2.heap.size, 2, none⟩ = some (.int .i64 (5 * s)) := B2.cell 2
  have c3 : w6.cell? ⟨w2.heap.size, 3, none⟩ = some (.int .i64 0) := B2.cell 3
  have z0 : w6.frozen? ⟨w2.heap.size, 0, none⟩ = false := B2.free 0
  have z1 : w6.frozen? ⟨w2.heap.size, 1, none⟩ = false := B2.free 1
  have z2 : w6.frozen? ⟨w2.heap.size, 2, none⟩ = false := B2.free 2
  have z3 : w6.frozen? ⟨w2.heap.size, 3, none⟩ = false := B2.free 3
  have d0 : w6.cell? ⟨w.heap.size, 0, none⟩ = some (.int .i64 0) := B1.cell 0
  have d1 : w6.cell? ⟨w.heap.size, 1, none⟩ = some (.int .i64 0) := B1.cell 1
  have d2 : w6.cell? ⟨w.heap.size, 2, none⟩ = some (.int .i64 0) := B1.cell 2
  have d3 : w6.cell? ⟨w.heap.size, 3, none⟩ = some (.int .i64 0) := B1.cell 3
  have y0 : w6.frozen? ⟨w.heap.size, 0, none⟩ = false := B1.free 0
  have y1 : w6.frozen? ⟨w.heap.size, 1, none⟩ = false := B1.free 1
  have y2 : w6.frozen? ⟨w.heap.size, 2, none⟩ = false := B1.free 2
  have y3 : w6.frozen? ⟨w.heap.size, 3, none⟩ = false := B1.free 3
  have hne : w.heap.size ≠ w2.heap.size := by omega
  clear S4 G4 B1 B2
  have S6 := S6.up (m' := m + 8) (by omega)
  go_wp2
  refine bodyPost_ret (v := .agg #[.int .i64 (10 + 10 * r), .int .i64 (5 + 5 * q), .int .i64 (5 * s), .int .i64 (100 + 10 * t)]) (by simp [results, Try.results81, go_sem, d0, d1, d2, d3, hne]) rfl ?_
  exact ⟨⟨⟨10 + 10 * r, 5 + 5 * q, 5 * s, 100 + 10 * t⟩, rfl⟩, (by repeat (first | (with_reducible assumption) | (with_reducible refine Src.set ?_ _ _ (by (try simp) <;> omega) (by (try simp) <;> omega)) | (with_reducible refine Src.below ?_ (Bel.alloc (Below.refl _ _) _)))), (by repeat (first | (with_reducible assumption) | (with_reducible refine only_out ?_ _ _ (by (try simp) <;> omega)) | (with_reducible refine only_below ?_ (Bel.alloc (Below.refl _ _) _))))⟩
theorem l12Bend_any {w : World} {base g m : Nat} (x : SPart) (S : Src w base g m) (hm : m ≤ 10000000000) (hb : base ≤ w.heap.size) :
    Calls Try.prog 82 #[.pointer (some ⟨g, 0, none⟩), .agg #[.int .i64 x.Length, .int .i64 x.Width, .int .i64 x.Depth, .int .i64 x.Density]] w fun e w' => (∃ y : SPart, e = .returned (.agg #[.int .i64 y.Length, .int .i64 y.Width, .int .i64 y.Depth, .int .i64 y.Density])) ∧ Src w' base g (m + 4) ∧ w.grownBy w' (some g) := by
  have hgl := S.lt
  go_enter Try.func82, Try.ntmps82
  go_wp2_with fail
  refine calls_box_out2 ?_
  intro W hbw B1 B2
  refine (pick_any 18 (S.below hbw) (by omega) (by omega)).mono ?_
  rintro e w1 ⟨⟨r, rfl, r0, r1⟩, S1, G1⟩
  have r2 : r < 18 := by omega
  clear r1
  have B1 := B1.grown G1 (by omega)
  have B2 := B2.grown G1 (by omega)
  have G1 := (Grown.bel hbw).trans G1
  clear S hbw
  by_cases e0 : r = 0
  · subst e0
    go_wp2_with fail
    refine calls_box_out ?_
    intro W3 hb3 B3
    have B1 := B1.below hb3
    have B2 := B2.below hb3
    have G2 := only_below G1 hb3
    have hl1 := B2.lt
    have hgl1 := S1.lt
    refine (among_any [0, 1, 2000, 2001] w1.heap.size 4 (S1.below hb3) (by omega) (by decide) (by decide) B3 (by omega)).mono ?_
    rintro e w4 ⟨⟨q, rfl, hq⟩, S4, G4⟩
    have B1 := B1.grown G4 (by omega)
    have B2 := B2.grown G4 (by omega)
    have G4 := G2.trans G4
    clear S1 G1 G2 hb3 B3
    simp only [List.mem_cons, List.not_mem_nil, or_false] at hq
    have c0 : w4.cell? ⟨w.heap.size, 0, none⟩ = some (.int .i64 x.Length) := B1.cell 0
    have c1 : w4.cell? ⟨w.heap.size, 1, none⟩ = some (.int .i64 x.Width) := B1.cell 1
    have c2 : w4.cell? ⟨w.heap.size, 2, none⟩ = some (.int .i64 x.Depth) := B1.cell 2
    have c3 : w4.cell? ⟨w.heap.size, 3, none⟩ = some (.int .i64 x.Density) := B1.cell 3
    have z0 : w4.frozen? ⟨w.heap.size, 0, none⟩ = false := B1.free 0
    have z1 : w4.frozen? ⟨w.heap.size, 1, none⟩ = false := B1.free 1
    have z2 : w4.frozen? ⟨w.heap.size, 2, none⟩ = false := B1.free 2
    have z3 : w4.frozen? ⟨w.heap.size, 3, none⟩ = false := B1.free 3
    have d0 : w4.cell? ⟨w.heap.size + 1, 0, none⟩ = some (.int .i64 0) := B2.cell 0
    have d1 : w4.cell? ⟨w.heap.size + 1, 1, none⟩ = some (.int .i64 0) := B2.cell 1
    have d2 : w4.cell? ⟨w.heap.size + 1, 2, none⟩ = some (.int .i64 0) := B2.cell 2
    have d3 : w4.cell? ⟨w.heap.size + 1, 3, none⟩ = some (.int .i64 0) := B2.cell 3
    have y0 : w4.frozen? ⟨w.heap.size + 1, 0, none⟩ = false := B2.free 0
    have y1 : w4.frozen? ⟨w.heap.size + 1, 1, none⟩ = false := B2.free 1
    have y2 : w4.frozen? ⟨w.heap.size + 1, 2, none⟩ = false := B2.free 2
    have y3 : w4.frozen? ⟨w.heap.size + 1, 3, none⟩ = false := B2.free 3
    clear B1 B2
    have S9 := S4.up (m' := m + 4) (by omega)
    clear S4
    go_wp2
    refine bodyPost_ret (v := .agg #[.int .i64 q, .int .i64 x.Width, .int .i64 x.Depth, .int .i64 x.Density]) (by simp [results, Try.results82, go_sem, d0, d1, d2, d3]) rfl ?_
    exact ⟨⟨⟨q, x.Width, x.Depth, x.Density⟩, rfl⟩, (by repeat (first | (with_reducible assumption) | (with_reducible refine Src.set ?_ _ _ (by (try simp) <;> omega) (by (try simp) <;> omega)) | (with_reducible refine Src.below ?_ (Bel.alloc (Below.refl _ _) _)))), (by repeat (first | (with_reducible assumption) | (with_reducible refine only_out ?_ _ _ (by (try simp) <;> omega)) | (with_reducible refine only_below ?_ (Bel.alloc (Below.refl _ _) _))))⟩
  by_cases e1 : r = 1
  · subst e1
    go_wp2_with fail
    refine calls_box_out ?_
    intro W3 hb3 B3
    have B1 := B1.below hb3
    have B2 := B2.below hb3
    have G2 := only_below G1 hb3
    have hl1 := B2.lt
    have hgl1 := S1.lt
    refine (among_any [0, 1, 500, 501] w1.heap.size 4 (S1.below hb3) (by omega) (by decide) (by decide) B3 (by omega)).mono ?_
    rintro e w4 ⟨⟨q, rfl, hq⟩, S4, G4⟩
    have B1 := B1.grown G4 (by omega)
    have B2 := B2.grown G4 (by omega)
    have G4 := G2.trans G4
    clear S1 G1 G2 hb3 B3
    simp only [List.mem_cons, List.not_mem_nil, or_false] at hq
    have c0 : w4.cell? ⟨w.heap.size, 0, none⟩ = some (.int .i64 x.Length) := B1.cell 0
    have c1 : w4.cell? ⟨w.heap.size, 1, none⟩ = some (.int .i64 x.Width) := B1.cell 1
    have c2 : w4.cell? ⟨w.heap.size, 2, none⟩ = some (.int .i64 x.Depth) := B1.cell 2
    have c3 : w4.cell? ⟨w.heap.size, 3, none⟩ = some (.int .i64 x.Density) := B1.cell 3
    have z0 : w4.frozen? ⟨w.heap.size, 0, none⟩ = false := B1.free 0
    have z1 : w4.frozen? ⟨w.heap.size, 1, none⟩ = false := B1.free 1
    have z2 : w4.frozen? ⟨w.heap.size, 2, none⟩ = false := B1.free 2
    have z3 : w4.frozen? ⟨w.heap.size, 3, none⟩ = false := B1.free 3
    have d0 : w4.cell? ⟨w.heap.size + 1, 0, none⟩ = some (.int .i64 0) := B2.cell 0
    have d1 : w4.cell? ⟨w.heap.size + 1, 1, none⟩ = some (.int .i64 0) := B2.cell 1
    have d2 : w4.cell? ⟨w.heap.size + 1, 2, none⟩ = some (.int .i64 0) := B2.cell 2
    have d3 : w4.cell? ⟨w.heap.size + 1, 3, none⟩ = some (.int .i64 0) := B2.cell 3
    have y0 : w4.frozen? ⟨w.heap.size + 1, 0, none⟩ = false := B2.free 0
    have y1 : w4.frozen? ⟨w.heap.size + 1, 1, none⟩ = false := B2.free 1
    have y2 : w4.frozen? ⟨w.heap.size + 1, 2, none⟩ = false := B2.free 2
    have y3 : w4.frozen? ⟨w.heap.size + 1, 3, none⟩ = false := B2.free 3
    clear B1 B2
    have S9 := S4.up (m' := m + 4) (by omega)
    clear S4
    go_wp2
    refine bodyPost_ret (v := .agg #[.int .i64 x.Length, .int .i64 q, .int .i64 x.Depth, .int .i64 x.Density]) (by simp [results, Try.results82, go_sem, d0, d1, d2, d3]) rfl ?_
    exact ⟨⟨⟨x.Length, q, x.Depth, x.Density⟩, rfl⟩, (by repeat (first | (with_reducible assumption) | (with_reducible refine Src.set ?_ _ _ (by (try simp) <;> omega) (by (try simp) <;> omega)) | (with_reducible refine Src.below ?_ (Bel.alloc (Below.refl _ _) _)))), (by repeat (first | (with_reducible assumption) | (with_reducible refine only_out ?_ _ _ (by (try simp) <;> omega)) | (with_reducible refine only_below ?_ (Bel.alloc (Below.refl _ _) _))))⟩
  by_cases e2 : r = 2
  · subst e2
    go_wp2_with fail
    refine calls_box_out ?_
    intro W3 hb3 B3
    have B1 := B1.below hb3
    have B2 := B2.below hb3
    have G2 := only_below G1 hb3
    have hl1 := B2.lt
    have hgl1 := S1.lt
    refine (among_any [-1, 0, 500, 501] w1.heap.size 4 (S1.below hb3) (by omega) (by decide) (by decide) B3 (by omega)).mono ?_
    rintro e w4 ⟨⟨q, rfl, hq⟩, S4, G4⟩
    have B1 := B1.grown G4 (by omega)
    have B2 := B2.grown G4 (by omega)
    have G4 := G2.trans G4
    clear S1 G1 G2 hb3 B3
    simp only [List.mem_cons, List.not_mem_nil, or_false] at hq
    have c0 : w4.cell? ⟨w.heap.size, 0, none⟩ = some (.int .i64 x.Length) := B1.cell 0
    have c1 : w4.cell? ⟨w.heap.size, 1, none⟩ = some (.int .i64 x.Width) := B1.cell 1
    have c2 : w4.cell? ⟨w.heap.size, 2, none⟩ = some (.int .i64 x.Depth) := B1.cell 2
    have c3 : w4.cell? ⟨w.heap.size, 3, none⟩ = some (.int .i64 x.Density) := B1.cell 3
    have z0 : w4.frozen? ⟨w.heap.size, 0, none⟩ = false := B1.free 0
    have z1 : w4.frozen? ⟨w.heap.size, 1, none⟩ = false := B1.free 1
    have z2 : w4.frozen? ⟨w.heap.size, 2, none⟩ = false := B1.free 2
    have z3 : w4.frozen? ⟨w.heap.size, 3, none⟩ = false := B1.free 3
    have d0 : w4.cell? ⟨w.heap.size + 1, 0, none⟩ = some (.int .i64 0) := B2.cell 0
    have d1 : w4.cell? ⟨w.heap.size + 1, 1, none⟩ = some (.int .i64 0) := B2.cell 1
    have d2 : w4.cell? ⟨w.heap.size + 1, 2, none⟩ = some (.int .i64 0) := B2.cell 2
    have d3 : w4.cell? ⟨w.heap.size + 1, 3, none⟩ = some (.int .i64 0) := B2.cell 3
    have y0 : w4.frozen? ⟨w.heap.size + 1, 0, none⟩ = false := B2.free 0
    have y1 : w4.frozen? ⟨w.heap.size + 1, 1, none⟩ = false := B2.free 1
    have y2 : w4.frozen? ⟨w.heap.size + 1, 2, none⟩ = false := B2.free 2
    have y3 : w4.frozen? ⟨w.heap.size + 1, 3, none⟩ = false := B2.free 3
    clear B1 B2
    have S9 := S4.up (m' := m + 4) (by omega)
    clear S4
    go_wp2
    refine bodyPost_ret (v := .agg #[.int .i64 x.Length, .int .i64 x.Width, .int .i64 q, .int .i64 x.Density]) (by simp [results, Try.results82, go_sem, d0, d1, d2, d3]) rfl ?_
    exact ⟨⟨⟨x.Length, x.Width, q, x.Density⟩, rfl⟩, (by repeat (first | (with_reducible assumption) | (with_reducible refine Src.set ?_ _ _ (by (try simp) <;> omega) (by (try simp) <;> omega)) | (with_reducible refine Src.below ?_ (Bel.alloc (Below.refl _ _) _)))), (by repeat (first | (with_reducible assumption) | (with_reducible refine only_out ?_ _ _ (by (try simp) <;> omega)) | (with_reducible refine only_below ?_ (Bel.alloc (Below.refl _ _) _))))⟩
  by_cases e3 : r = 3
  · subst e3
    go_wp2_with fail
    refine calls_box_out ?_
    intro W3 hb3 B3
    have B1 := B1.below hb3
    have B2 := B2.below hb3
    have G2 := only_below G1 hb3
    have hl1 := B2.lt
    have hgl1 := S1.lt
    refine (among_any [0, 1, 1000, 1001] w1.heap.size 4 (S1.below hb3) (by omega) (by decide) (by decide) B3 (by omega)).mono ?_
    rintro e w4 ⟨⟨q, rfl, hq⟩, S4, G4⟩
    have B1 := B1.grown G4 (by omega)
    have B2 := B2.grown G4 (by omega)
    have G4 := G2.trans G4
    clear S1 G1 G2 hb3 B3
    simp only [List.mem_cons, List.not_mem_nil, or_false] at hq
    have c0 : w4.cell? ⟨w.heap.size, 0, none⟩ = some (.int .i64 x.Length) := B1.cell 0
    have c1 : w4.cell? ⟨w.heap.size, 1, none⟩ = some (.int .i64 x.Width) := B1.cell 1
    have c2 : w4.cell? ⟨w.heap.size, 2, none⟩ = some (.int .i64 x.Depth) := B1.cell 2
    have c3 : w4.cell? ⟨w.heap.size, 3, none⟩ = some (.int .i64 x.Density) := B1.cell 3
    have z0 : w4.frozen? ⟨w.heap.size, 0, none⟩ = false := B1.free 0
    have z1 : w4.frozen? ⟨w.heap.size, 1, none⟩ = false := B1.free 1
    have z2 : w4.frozen? ⟨w.heap.size, 2, none⟩ = false := B1.free 2
    have z3 : w4.frozen? ⟨w.heap.size, 3, none⟩ = false := B1.free 3
    have d0 : w4.cell? ⟨w.heap.size + 1, 0, none⟩ = some (.int .i64 0) := B2.cell 0
    have d1 : w4.cell? ⟨w.heap.size + 1, 1, none⟩ = some (.int .i64 0) := B2.cell 1
    have d2 : w4.cell? ⟨w.heap.size + 1, 2, none⟩ = some (.int .i64 0) := B2.cell 2
    have d3 : w4.cell? ⟨w.heap.size + 1, 3, none⟩ = some (.int .i64 0) := B2.cell 3
    have y0 : w4.frozen? ⟨w.heap.size + 1, 0, none⟩ = false := B2.free 0
    have y1 : w4.frozen? ⟨w.heap.size + 1, 1, none⟩ = false := B2.free 1
    have y2 : w4.frozen? ⟨w.heap.size + 1, 2, none⟩ = false := B2.free 2
    have y3 : w4.frozen? ⟨w.heap.size + 1, 3, none⟩ = false := B2.free 3
    clear B1 B2
    have S9 := S4.up (m' := m + 4) (by omega)
    clear S4
    go_wp2
    refine bodyPost_ret (v := .agg #[.int .i64 x.Length, .int .i64 x.Width, .int .i64 x.Depth, .int .i64 q]) (by simp [results, Try.results82, go_sem, d0, d1, d2, d3]) rfl ?_
    exact ⟨⟨⟨x.Length, x.Width, x.Depth, q⟩, rfl⟩, (by repeat (first | (with_reducible assumption) | (with_reducible refine Src.set ?_ _ _ (by (try simp) <;> omega) (by (try simp) <;> omega)) | (with_reducible refine Src.below ?_ (Bel.alloc (Below.refl _ _) _)))), (by repeat (first | (with_reducible assumption) | (with_reducible refine only_out ?_ _ _ (by (try simp) <;> omega)) | (with_reducible refine only_below ?_ (Bel.alloc (Below.refl _ _) _))))⟩
  have f0 : (r == 0) = false := by simpa using e0
  have f1 : (r == 1) = false := by simpa using e1
  have f2 : (r == 2) = false := by simpa using e2
  have f3 : (r == 3) = false := by simpa using e3
  have c0 : w1.cell? ⟨w.heap.size, 0, none⟩ = some (.int .i64 x.Length) := B1.cell 0
  have c1 : w1.cell? ⟨w.heap.size, 1, none⟩ = some (.int .i64 x.Width) := B1.cell 1
  have c2 : w1.cell? ⟨w.heap.size, 2, none⟩ = some (.int .i64 x.Depth) := B1.cell 2
  have c3 : w1.cell? ⟨w.heap.size, 3, none⟩ = some (.int .i64 x.Density) := B1.cell 3
  have z0 : w1.frozen? ⟨w.heap.size, 0, none⟩ = false := B1.free 0
  have z1 : w1.frozen? ⟨w.heap.size, 1, none⟩ = false := B1.free 1
  have z2 : w1.frozen? ⟨w.heap.size, 2, none⟩ = false := B1.free 2
  have z3 : w1.frozen? ⟨w.heap.size, 3, none⟩ = false := B1.free 3
  have d0 : w1.cell? ⟨w.heap.size + 1, 0, none⟩ = some (.int .i64 0) := B2.cell 0
  have d1 : w1.cell? ⟨w.heap.size + 1, 1, none⟩ = some (.int .i64 0) := B2.cell 1
  have d2 : w1.cell? ⟨w.heap.size + 1, 2, none⟩ = some (.int .i64 0) := B2.cell 2
  have d3 : w1.cell? ⟨w.heap.size + 1, 3, none⟩ = some (.int .i64 0) := B2.cell 3
  have y0 : w1.frozen? ⟨w.heap.size + 1, 0, none⟩ = false := B2.free 0
  have y1 : w1.frozen? ⟨w.heap.size + 1, 1, none⟩ = false := B2.free 1
  have y2 : w1.frozen? ⟨w.heap.size + 1, 2, none⟩ = false := B2.free 2
  have y3 : w1.frozen? ⟨w.heap.size + 1, 3, none⟩ = false := B2.free 3
  clear B1 B2
  have S9 := S1.up (m' := m + 4) (by omega)
  clear S1
  go_wp2
  refine bodyPost_ret (v := .agg #[.int .i64 x.Length, .int .i64 x.Width, .int .i64 x.Depth, .int .i64 x.Density]) (by simp [results, Try.results82, go_sem, d0, d1, d2, d3]) rfl ?_
  exact ⟨⟨x, rfl⟩, (by repeat (first | (with_reducible assumption) | (with_reducible refine Src.set ?_ _ _ (by (try simp) <;> omega) (by (try simp) <;> omega)) | (with_reducible refine Src.below ?_ (Bel.alloc (Below.refl _ _) _)))), (by repeat (first | (with_reducible assumption) | (with_reducible refine only_out ?_ _ _ (by (try simp) <;> omega)) | (with_reducible refine only_below ?_ (Bel.alloc (Below.refl _ _) _))))⟩
end Go.Proofs.Ytcjalooaikfkbaa
