/- Slices of slices of integers that a call makes by append at both levels (capacities left open). No program in sight. -/
import Derived.Test.YtcjalooaikfkbaaRowSS
namespace Go.Proofs.Ytcjalooaikfkbaa
set_option linter.unusedSimpArgs false
set_option linter.unusedVariables false
open Go.RowKit
def hcG (h : Nat × Nat × Nat) : List Value := [.slice (some ⟨h.1, 0, none⟩) h.2.1 h.2.2]
def RowG (tt ti : TypeId) (w : World) (base top : Nat) (v : Value) (n : Nat) (C : Nat → List Int) : Prop :=
  ∃ hs : List (Nat × Nat × Nat), hs.length = n ∧ Row hcG 1 tt w base v hs ∧ (∀ g, v.ownBlock = some g → g < top) ∧
    (∀ i (h : i < hs.length), (C i).length = hs[i].2.1 ∧ hs[i].1 < top ∧ Row intc 1 ti w base (.slice (some ⟨hs[i].1, 0, none⟩) hs[i].2.1 hs[i].2.2) (C i))
section
variable {tt ti : TypeId} {w w' : World} {base top : Nat} {v : Value} {n : Nat} {C : Nat → List Int}
theorem ownG {g m c : Nat} : (Value.slice (some ⟨g, 0, none⟩) m c).ownBlock = some g := rfl
theorem RowG.of_same (R : RowG tt ti w base top v n C) (h : ∀ g, base ≤ g → g < top → g < w.heap.size → w'.heap[g]? = w.heap[g]?) : RowG tt ti w' base top v n C := by
  obtain ⟨hs, h1, h2, h3, h4⟩ := R
  refine ⟨hs, h1, h2.of_same fun g hg => h g (h2.own_ge hg) (h3 g hg) (h2.own_lt hg), h3, fun i hi => ?_⟩
  obtain ⟨a1, a2, a3⟩ := h4 i hi
  exact ⟨a1, a2, a3.of_same fun g hg => by
    have e : hs[i].1 = g := by rw [ownG] at hg; injection hg
    subst e; exact h _ (a3.own_ge ownG) a2 (a3.own_lt ownG)⟩
theorem RowG.below (R : RowG tt ti w base top v n C) (hb : Below w.heap.size w w') : RowG tt ti w' base top v n C := R.of_same fun g _ _ h => hb.block g h
theorem RowG.upto {B : Nat} (R : RowG tt ti w base top v n C) (hb : Below B w w') (hB : top ≤ B) : RowG tt ti w' base top v n C := R.of_same fun g _ h _ => hb.block g (by omega)
theorem RowG.grown {g : Nat} (R : RowG tt ti w base top v n C) (hg : w.grownBy w' (some g)) (hne : g < base ∨ top ≤ g) : RowG tt ti w' base top v n C :=
  R.of_same fun g' h1 h2 h3 => hg.block g' h3 (fun e => by injection e with e; omega)
theorem RowG.nil : RowG tt ti w base top (.slice none 0 0) 0 C :=
  ⟨[], rfl, Row.nil, fun g h => by simp [Value.ownBlock] at h, fun i hi => absurd hi (Nat.not_lt_zero i)⟩
theorem RowG.empty {w0 : World} {B : Nat} (hB : B ≤ w0.heap.size) (ht : w0.heap.size < top) : RowG tt ti (w0.alloc (.cells #[] tt)) B top (.slice (some ⟨w0.heap.size, 0, none⟩) 0 0) 0 C :=
  ⟨[], rfl, Row.empty hB, fun g h => by simp [Value.ownBlock] at h; omega, fun i hi => absurd hi (Nat.not_lt_zero i)⟩
theorem RowG.up {top' : Nat} (R : RowG tt ti w base top v n C) (h : top ≤ top') : RowG tt ti w base top' v n C := by
  obtain ⟨hs, h1, h2, h3, h4⟩ := R
  refine ⟨hs, h1, h2, fun g hg => by have := h3 g hg; omega, fun i hi => ?_⟩
  obtain ⟨a1, a2, a3⟩ := h4 i hi
  exact ⟨a1, by omega, a3⟩
theorem RowG.lower {base' : Nat} (R : RowG tt ti w base top v n C) (h : base' ≤ base) : RowG tt ti w base' top v n C := by
  obtain ⟨hs, h1, h2, h3, h4⟩ := R
  refine ⟨hs, h1, h2.lower h, h3, fun i hi => ?_⟩
  obtain ⟨a1, a2, a3⟩ := h4 i hi
  exact ⟨a1, a2, a3.lower h⟩
theorem RowG.congr {C' : Nat → List Int} (R : RowG tt ti w base top v n C) (h : ∀ i, i < n → C i = C' i) : RowG tt ti w base top v n C' := by
  obtain ⟨hs, h1, h2, h3, h4⟩ := R
  refine ⟨hs, h1, h2, h3, fun i hi => ?_⟩
  rw [← h i (by omega)]
  exact h4 i hi
theorem RowG.form (R : RowG tt ti w base top v n C) : ∃ A c, v = .slice A n c := by
  obtain ⟨hs, h1, h2, _⟩ := R
  obtain ⟨A, c, e, _⟩ := h2.form (fun _ => rfl)
  exact ⟨A, c, by rw [e, h1]⟩
theorem RowG.at {A : Option Addr} {c : Nat} (R : RowG tt ti w base top (.slice A n c) n C) {i : Nat} (hi : i < n) :
    ∃ b o g c', A = some ⟨b, o, none⟩ ∧ b < w.heap.size ∧ w.cell? ⟨b, o + i, none⟩ = some (.slice (some ⟨g, 0, none⟩) (C i).length c') ∧ ArgS intc 1 w (some ⟨g, 0, none⟩) (C i) := by
  obtain ⟨hs, h1, h2, h3, h4⟩ := R
  obtain ⟨A', c', e, hS⟩ := h2.form (fun _ => rfl)
  injection e with e1 _ _
  subst e1
  obtain ⟨b, o, hA, hb, hcell⟩ := hS (by omega)
  obtain ⟨a1, a2, a3⟩ := h4 i (by omega)
  have hc1 := hcell i (by omega) 0 (.slice (some ⟨hs[i].1, 0, none⟩) hs[i].2.1 hs[i].2.2) rfl
  rw [Nat.mul_one, Nat.add_zero] at hc1
  exact ⟨b, o, hs[i].1, hs[i].2.2, hA, hb, by rw [a1]; exact hc1, a3.argS (fun _ => rfl)⟩
theorem RowG.ne (hne : tt ≠ ti) {hs : List (Nat × Nat × Nat)} (R : Row hcG 1 tt w base v hs) {b2 g m c : Nat} {l : List Int} (O : Row intc 1 ti w b2 (.slice (some ⟨g, 0, none⟩) m c) l) : v.ownBlock ≠ some g := by
  intro h
  rcases R.2 with ⟨h3, _⟩ | ⟨g', _, cur, h3, _, h5, _⟩
  · rw [h3] at h; simp [Value.ownBlock] at h
  · rw [h3] at h
    have e : g' = g := by simpa [Value.ownBlock] using h
    rcases O.2 with ⟨o3, _⟩ | ⟨g2, _, cur2, o3, _, o5, _⟩
    · cases o3
    · injection o3 with o3 _ _
      injection o3 with o3
      injection o3 with o3 _ _
      rw [← o3, ← e, h5] at o5
      injection o5 with o5
      injection o5 with _ o5
      exact hne o5
end
/-- append(v, row). -/
theorem wpList_pushG {P : Program} {ops : Array Oper} {rest : List Oper} {o : Oper} {a : Act} {Q : Exit → Act → World → Prop} {w : World} (hgd : o.guard = none) (s x : Operand) (t : TypeId)
    (ho : o.op = .call { callee := .builtin .append, args := #[s, x], argTypes := #[t, t] }) (base : Nat) (tt ti : TypeId) (ht : P.underlying t = some (.slice tt))
    (hi : (P.info? tt).map (fun i => (i.zero, i.size, i.bytes)) = some (some (.slice none 0 0), 1, 24))
    (v : Value) (n : Nat) (C : Nat → List Int) (y : List Int) (g m c : Nat) (hm : y.length = m) (O : Row intc 1 ti w base (.slice (some ⟨g, 0, none⟩) m c) y)
    (hs : a.eval s = v) (R : RowG tt ti w base w.heap.size v n C) (c' : Nat) (hx : a.eval x = .slice (some ⟨w.heap.size, 0, none⟩) 1 c') (hn : n ≤ 1048577) (hbase : base ≤ w.heap.size)
    (hne : tt ≠ ti)
    (h : ∀ v' w', RowG tt ti w' base w'.heap.size v' (n + 1) (fun i => if i < n then C i else y) → Below base w w' → wpList P ops Q rest (a.put o.dst v') w') :
    wpList P ops Q (o :: rest) a (w.alloc (.cells #[.slice (some ⟨g, 0, none⟩) m c] tt)) := by
  obtain ⟨hs', h1, h2, h3, h4⟩ := R
  have hb1 : Below w.heap.size w (w.alloc (.cells #[.slice (some ⟨g, 0, none⟩) m c] tt)) := Bel.alloc (Below.refl _ _) _
  have hnew := Box.new w tt #[.slice (some ⟨g, 0, none⟩) m c]
  refine wpList_push hgd s x t ho base tt (.slice none 0 0) 1 24 ht hi rfl (by decide) (by decide) hcG v hs' (g, m, c) hs (h2.below hb1) w.heap.size c' hx rfl (fun j u hu => ?_) (fun u hu => ?_) (by omega) (by have := hb1.size; omega) fun v' w' hr hg hb => h v' w' ?_ ?_
  · rw [hnew.cell j]; simpa [hcG] using hu
  · simp only [hcG, List.mem_singleton] at hu; subst hu; rfl
  · have hsz := hg.size
    have hsz2 := hb1.size
    refine ⟨hs' ++ [(g, m, c)], by simp [h1], hr, fun g' hg' => hr.own_lt hg', fun i hi => ?_⟩
    have keep : ∀ (g m c : Nat) (l : List Int), Row intc 1 ti w base (.slice (some ⟨g, 0, none⟩) m c) l → g < w'.heap.size ∧ Row intc 1 ti w' base (.slice (some ⟨g, 0, none⟩) m c) l := fun g m c l O => by
      have O2 := O.below hb1
      refine ⟨by have := O2.own_lt ownG; omega, O2.of_same fun g' hg' => ?_⟩
      have e : g = g' := by rw [ownG] at hg'; injection hg'
      subst e
      exact hg.block _ (O2.own_lt ownG) (fun e => RowG.ne hne (h2.below hb1) O2 e.symm)
    rcases Nat.lt_or_ge i hs'.length with hlt | hge
    · obtain ⟨a1, a2, a3⟩ := h4 i hlt
      rw [List.getElem_append_left hlt]
      dsimp only
      rw [if_pos (show i < n by omega)]
      obtain ⟨k1, k2⟩ := keep _ _ _ _ a3
      exact ⟨a1, k1, k2⟩
    · have e : i = hs'.length := by simp at hi; omega
      subst e
      rw [List.getElem_append_right (Nat.le_refl _)]
      dsimp only
      rw [if_neg (show ¬ hs'.length < n by omega)]
      simp only [Nat.sub_self, List.getElem_cons_zero]
      obtain ⟨k1, k2⟩ := keep _ _ _ _ O
      exact ⟨hm, k1, k2⟩
  · exact (hb1.mono hbase).trans hb
end Go.Proofs.Ytcjalooaikfkbaa
