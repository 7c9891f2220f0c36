/- Slices of slices of integers: an append that leaves boxes of other types alone. No program in sight. -/
import Derived.Test.YtlicpgmcnebpmaaRowSS
namespace Go.Proofs.Ytlicpgmcnebpmaa
set_option linter.unusedSimpArgs false
set_option linter.unusedVariables false
open Go.RowKit
/-- append(v, []int64..) for a slice that lies in the block before the last one; boxes of other types stay. -/
theorem wpList_pushLB {P : Program} {ops : Array Oper} {rest : List Oper} {o : Oper} {a : Act} {Q : Exit → Act → World → Prop} {w : World} (hgd : o.guard = none) (s x : Operand) (t : TypeId)
    (ho : o.op = .call { callee := .builtin .append, args := #[s, x], argTypes := #[t, t] }) (base : Nat) (tt ti : TypeId) (ht : P.underlying t = some (.slice tt))
    (hi : (P.info? tt).map (fun i => (i.zero, i.size, i.bytes)) = some (some (.slice none 0 0), 1, 24))
    (v : Value) (L : List (List Int)) (y : List Int) (arr : Array Value) (harr : arr.size = y.length) (hy : ∀ i (h : i < y.length), arr[i]? = some (.int .i64 y[i]))
    (hs : a.eval s = v) (R : RowF tt ti w base w.heap.size v L.length (getF L)) (c : Nat) (hx : a.eval x = .slice (some ⟨w.heap.size + 1, 0, none⟩) 1 c) (hn : L.length ≤ 1048577) (hbase : base ≤ w.heap.size)
    (hne : tt ≠ ti)
    (h : ∀ v' w', RowF tt ti w' base w'.heap.size v' (L ++ [y]).length (getF (L ++ [y])) → Below base w w' → (∀ g0 cs0 t0, t0 ≠ tt → Box t0 w g0 cs0 → Box t0 w' g0 cs0) → wpList P ops Q rest (a.put o.dst v') w') :
    wpList P ops Q (o :: rest) a ((w.alloc (.cells arr ti)).alloc (.cells #[.slice (some ⟨w.heap.size, 0, none⟩) y.length y.length] tt)) := by
  obtain ⟨hs', h1, h2, h3, h4, h5⟩ := R
  have e1 : (w.alloc (.cells arr ti)).heap.size = w.heap.size + 1 := by simp
  have hb1 : Below w.heap.size w ((w.alloc (.cells arr ti)).alloc (.cells #[.slice (some ⟨w.heap.size, 0, none⟩) y.length y.length] tt)) := Bel.alloc (Bel.alloc (Below.refl _ _) _) _
  have hnew := Box.new (w.alloc (.cells arr ti)) tt #[.slice (some ⟨w.heap.size, 0, none⟩) y.length y.length]
  rw [e1] at hnew
  have hin : Box ti ((w.alloc (.cells arr ti)).alloc (.cells #[.slice (some ⟨w.heap.size, 0, none⟩) y.length y.length] tt)) w.heap.size arr := (Box.new w ti arr).alloc _
  refine wpList_push hgd s x t ho base tt (.slice none 0 0) 1 24 ht hi rfl (by decide) (by decide) hc v hs' (w.heap.size, y.length) hs (h2.below hb1) (w.heap.size + 1) c hx rfl (fun j u hu => ?_) (fun u hu => ?_) (by omega) (by have := hb1.size; omega) fun v' w' hr hg hb => h v' w' ?_ ?_ ?_
  · rw [hnew.cell j]; simpa [hc] using hu
  · simp only [hc, List.mem_singleton] at hu; subst hu; rfl
  · have hOin : Own intc 1 ti ((w.alloc (.cells arr ti)).alloc (.cells #[.slice (some ⟨w.heap.size, 0, none⟩) y.length y.length] tt)) w.heap.size y := by
      refine ⟨arr, hin, by omega, fun i hi j u hu => ?_⟩
      have hj : j = 0 := by
        have := (List.getElem?_eq_some_iff.1 hu).1
        simp [intc] at this; exact this
      subst hj
      rw [Nat.mul_one, Nat.add_zero, hy i hi]
      simpa [intc] using hu
    have hsz := hg.size
    have hsz2 := hb1.size
    have hl3 := hin.lt
    refine ⟨hs' ++ [(w.heap.size, y.length)], by simp [h1], hr, fun g hgg => hr.own_lt hgg, fun i hi => ?_, fun i j hi hj hij => ?_⟩
    · rcases Nat.lt_or_ge i hs'.length with hlt | hge
      · obtain ⟨a1, a2, a3, a4⟩ := h4 i hlt
        rw [List.getElem_append_left hlt, getF_snoc_lt (by omega)]
        have a5 := a4.below hb1
        exact ⟨a1, a2, by have := a5.arr.1; omega, a5.of_same (hg.block _ a5.arr.1 (fun e => RowF.block_ne hne (h2.below hb1) a5 e.symm))⟩
      · have e : i = L.length := by simp at hi; omega
        subst e
        rw [List.getElem_append_right hge, getF_snoc_eq]
        have e0 : L.length - hs'.length = 0 := by omega
        simp only [e0, List.getElem_cons_zero]
        exact ⟨by trivial, hbase, by omega, hOin.of_same (hg.block _ hl3 (fun e => RowF.block_ne hne (h2.below hb1) hOin e.symm))⟩
    · have key : ∀ i (hi : i < (hs' ++ [(w.heap.size, y.length)]).length), (i < hs'.length ∧ (hs' ++ [(w.heap.size, y.length)])[i].1 < w.heap.size) ∨ (i = hs'.length ∧ (hs' ++ [(w.heap.size, y.length)])[i].1 = w.heap.size) := fun i hi => by
        rcases Nat.lt_or_ge i hs'.length with hlt | hge
        · refine Or.inl ⟨hlt, ?_⟩
          rw [List.getElem_append_left hlt]
          exact (h4 i hlt).2.2.1
        · have e : i = hs'.length := by simp at hi; omega
          refine Or.inr ⟨e, ?_⟩
          subst e
          simp
      rcases key i hi with ⟨b1, b2⟩ | ⟨b1, b2⟩ <;> rcases key j hj with ⟨b3, b4⟩ | ⟨b3, b4⟩
      · rw [List.getElem_append_left b1, List.getElem_append_left b3] at hij
        exact h5 i j b1 b3 hij
      · omega
      · omega
      · omega
  · exact (hb1.mono hbase).trans hb
  · intro g0 cs0 t0 ht0 hB
    have hB1 : Box t0 ((w.alloc (.cells arr ti)).alloc (.cells #[.slice (some ⟨w.heap.size, 0, none⟩) y.length y.length] tt)) g0 cs0 := hB.below hb1
    refine (hg.block _ hB1.lt fun e => ?_).trans hB1
    rcases h2.2 with ⟨h3', _⟩ | ⟨g', _, cur, h3', _, h5', _⟩
    · rw [h3'] at e; simp [Value.ownBlock] at e
    · rw [h3'] at e
      have e' : g' = g0 := (show g0 = g' by simpa [Value.ownBlock] using e).symm
      rw [e'] at h5'
      rw [show w.heap[g0]? = _ from hB] at h5'
      injection h5' with h6
      injection h6 with _ h7
      exact ht0 h7
end Go.Proofs.Ytlicpgmcnebpmaa
