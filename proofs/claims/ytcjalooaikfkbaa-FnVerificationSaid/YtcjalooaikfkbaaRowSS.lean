/- Slices of slices of integers that a call makes: what they hold. No program in sight. -/
import Derived.Test.YtcjalooaikfkbaaApp
namespace Go.Proofs.Ytcjalooaikfkbaa
set_option linter.unusedSimpArgs false
set_option linter.unusedVariables false
open Go.RowKit
def hc (h : Nat × Nat) : List Value := [.slice (some ⟨h.1, 0, none⟩) h.2 h.2]
/-- v is a slice of n slices, the i-th of which lies in a block of its own and holds just C i; all blocks lie from base on, below top. -/
def RowF (tt ti : TypeId) (w : World) (base top : Nat) (v : Value) (n : Nat) (C : Nat → List Int) : Prop :=
  ∃ hs : List (Nat × Nat), hs.length = n ∧ Row hc 1 tt w base v hs ∧ (∀ g, v.ownBlock = some g → g < top) ∧
    (∀ i (h : i < hs.length), (C i).length = hs[i].2 ∧ base ≤ hs[i].1 ∧ hs[i].1 < top ∧ Own intc 1 ti w hs[i].1 (C i)) ∧
    (∀ i j (hi : i < hs.length) (hj : j < hs.length), hs[i].1 = hs[j].1 → i = j)
theorem Own.of_same {α : Type} {cs : α → List Value} {sz : Nat} {t : TypeId} {w w' : World} {g : Nat} {xs : List α} (h : Own cs sz t w g xs) (e : w'.heap[g]? = w.heap[g]?) : Own cs sz t w' g xs := by
  obtain ⟨arr, hh, h2, h3⟩ := h
  exact ⟨arr, e.trans hh, h2, h3⟩
section
variable {tt ti : TypeId} {w w' : World} {base top : Nat} {v : Value} {n : Nat} {C : Nat → List Int}
theorem RowF.of_same (R : RowF tt ti w base top v n C) (h : ∀ g, base ≤ g → g < top → g < w.heap.size → w'.heap[g]? = w.heap[g]?) : RowF tt ti w' base top v n C := by
  obtain ⟨hs, h1, h2, h3, h4, h5⟩ := R
  refine ⟨hs, h1, h2.of_same fun g hg => h g (h2.own_ge hg) (h3 g hg) (h2.own_lt hg), h3, fun i hi => ?_, h5⟩
  obtain ⟨a1, a2, a3, a4⟩ := h4 i hi
  exact ⟨a1, a2, a3, a4.of_same (h _ a2 a3 a4.arr.1)⟩
theorem RowF.below (R : RowF tt ti w base top v n C) (hb : Below w.heap.size w w') : RowF tt ti w' base top v n C := R.of_same fun g _ _ h => hb.block g h
theorem RowF.upto {B : Nat} (R : RowF tt ti w base top v n C) (hb : Below B w w') (hB : top ≤ B) : RowF tt ti w' base top v n C := R.of_same fun g _ h _ => hb.block g (by omega)
theorem RowF.grown {g : Nat} (R : RowF tt ti w base top v n C) (hg : w.grownBy w' (some g)) (hne : g < base ∨ top ≤ g) : RowF tt ti w' base top v n C :=
  R.of_same fun g' h1 h2 h3 => hg.block g' h3 (fun e => by injection e with e; omega)
theorem RowF.up {top' : Nat} (R : RowF tt ti w base top v n C) (h : top ≤ top') : RowF tt ti w base top' v n C := by
  obtain ⟨hs, h1, h2, h3, h4, h5⟩ := R
  refine ⟨hs, h1, h2, fun g hg => by have := h3 g hg; omega, fun i hi => ?_, h5⟩
  obtain ⟨a1, a2, a3, a4⟩ := h4 i hi
  exact ⟨a1, a2, by omega, a4⟩
theorem RowF.lower {base' : Nat} (R : RowF tt ti w base top v n C) (h : base' ≤ base) : RowF tt ti w base' top v n C := by
  obtain ⟨hs, h1, h2, h3, h4, h5⟩ := R
  refine ⟨hs, h1, h2.lower h, h3, fun i hi => ?_, h5⟩
  obtain ⟨a1, a2, a3, a4⟩ := h4 i hi
  exact ⟨a1, by omega, a3, a4⟩
theorem RowF.congr {C' : Nat → List Int} (R : RowF tt ti w base top v n C) (h : ∀ i, i < n → C i = C' i) : RowF tt ti w base top v n C' := by
  obtain ⟨hs, h1, h2, h3, h4, h5⟩ := R
  refine ⟨hs, h1, h2, h3, fun i hi => ?_, h5⟩
  rw [← h i (by omega)]
  exact h4 i hi
theorem RowF.nil : RowF tt ti w base top (.slice none 0 0) 0 C :=
  ⟨[], rfl, Row.nil, fun g h => by simp [Value.ownBlock] at h, fun i hi => absurd hi (Nat.not_lt_zero i), fun i _ hi => absurd hi (Nat.not_lt_zero i)⟩
theorem RowF.empty {w0 : World} {B : Nat} (hB : B ≤ w0.heap.size) (ht : w0.heap.size < top) : RowF tt ti (w0.alloc (.cells #[] tt)) B top (.slice (some ⟨w0.heap.size, 0, none⟩) 0 0) 0 C :=
  ⟨[], rfl, Row.empty hB, fun g h => by simp [Value.ownBlock] at h; omega, fun i hi => absurd hi (Nat.not_lt_zero i), fun i _ hi => absurd hi (Nat.not_lt_zero i)⟩
theorem RowF.form (R : RowF tt ti w base top v n C) : ∃ A c, v = .slice A n c := by
  obtain ⟨hs, h1, h2, _⟩ := R
  obtain ⟨A, c, e, _⟩ := h2.form (fun _ => rfl)
  exact ⟨A, c, by rw [e, h1]⟩
theorem RowF.block_ne (hne : tt ≠ ti) {hs : List (Nat × Nat)} (R : Row hc 1 tt w base v hs) {g : Nat} {l : List Int} (O : Own intc 1 ti w g l) : v.ownBlock ≠ some g := by
  intro h
  rcases R.2 with ⟨h3, _⟩ | ⟨g', _, cur, h3, _, h5, _⟩
  · rw [h3] at h; simp [Value.ownBlock] at h
  · rw [h3] at h
    have e : g' = g := by simpa [Value.ownBlock] using h
    obtain ⟨arr, hh, _⟩ := O
    rw [← e, h5] at hh
    injection hh with hh
    injection hh with _ hh
    exact hne hh
/-- The i-th slice: its head's cell, its block; and what a change of that block alone does. -/
theorem RowF.at (hne : tt ≠ ti) {A : Option Addr} {c : Nat} (R : RowF tt ti w base top (.slice A n c) n C) {i : Nat} (hi : i < n) :
    ∃ b o g, A = some ⟨b, o, none⟩ ∧ b < w.heap.size ∧ w.cell? ⟨b, o + i, none⟩ = some (.slice (some ⟨g, 0, none⟩) (C i).length (C i).length) ∧ Own intc 1 ti w g (C i) ∧ base ≤ g ∧ g < top ∧
      ∀ w' l', w.grownBy w' (some g) → Own intc 1 ti w' g l' → l'.length = (C i).length → RowF tt ti w' base top (.slice A n c) n (fun m => if m = i then l' else C m) := by
  obtain ⟨hs, h1, h2, h3, h4, h5⟩ := R
  obtain ⟨A', c', e, hS⟩ := h2.form (fun _ => rfl)
  injection e with e1 _ _
  subst e1
  obtain ⟨b, o, hA, hb, hcell⟩ := hS (by omega)
  obtain ⟨a1, a2, a3, a4⟩ := h4 i (by omega)
  have hc1 := hcell i (by omega) 0 (.slice (some ⟨hs[i].1, 0, none⟩) hs[i].2 hs[i].2) rfl
  rw [Nat.mul_one, Nat.add_zero] at hc1
  refine ⟨b, o, hs[i].1, hA, hb, by rw [a1]; exact hc1, a4, a2, a3, fun w' l' hg ho hl => ?_⟩
  refine ⟨hs, h1, h2.grown hg (RowF.block_ne hne h2 a4), h3, fun m hm => ?_, h5⟩
  obtain ⟨d1, d2, d3, d4⟩ := h4 m hm
  by_cases e : m = i
  · subst e
    exact ⟨by dsimp only; rw [if_pos rfl, hl, d1], d2, d3, by dsimp only; rw [if_pos rfl]; exact ho⟩
  · exact ⟨by dsimp only; rw [if_neg e]; exact d1, d2, d3, by dsimp only; rw [if_neg e]; exact d4.grown hg (fun e2 => e (h5 m i hm (by omega) e2))⟩
end
/-- a row of its own is a slice that a call made -/
theorem Own.row {ti : TypeId} {w : World} {g : Nat} {xs : List Int} (O : Own intc 1 ti w g xs) (hn : xs.length ≤ 1048576) : Row intc 1 ti w g (.slice (some ⟨g, 0, none⟩) xs.length xs.length) xs := by
  obtain ⟨arr, hh, h2, h3⟩ := O
  refine ⟨by rw [flat_len (sz := 1) (fun _ => rfl)], Or.inr ⟨g, xs.length, arr, rfl, Nat.le_refl _, hh, Nat.le_refl _, by unfold maxLen; omega, h2, ?_⟩⟩
  apply List.ext_getElem?
  intro i
  rw [List.getElem?_take]
  by_cases hi : i < xs.length
  · rw [if_pos (by omega)]
    have h1 := flat_at (cs := intc) (sz := 1) (fun _ => rfl) xs i hi 0 (.int .i64 xs[i]) rfl
    rw [Nat.mul_one, Nat.add_zero] at h1
    have h4 := h3 i hi 0 (.int .i64 xs[i]) rfl
    rw [Nat.mul_one, Nat.add_zero] at h4
    rw [h1]
    simpa using h4
  · rw [if_neg (by omega), List.getElem?_eq_none]
    rw [flat_len (sz := 1) (fun _ => rfl)]; omega
theorem Row.toOwn {ti : TypeId} {w : World} {base g n : Nat} {ys : List Int} (R : Row intc 1 ti w base (.slice (some ⟨g, 0, none⟩) n n) ys) : Own intc 1 ti w g ys := by
  obtain ⟨h1, h2⟩ := R
  rcases h2 with ⟨h3, _⟩ | ⟨g', cap, cur, h3, _, h5, h6, _, h8, h9⟩
  · cases h3
  · injection h3 with e1 e2 e3
    injection e1 with e1
    injection e1 with e1 _ _
    subst e1
    refine ⟨cur, h5, by omega, fun i hi j u hu => ?_⟩
    have hf := flat_at (cs := intc) (sz := 1) (fun _ => rfl) ys i hi j u hu
    rw [← h9, List.getElem?_take] at hf
    split at hf
    · simpa using hf
    · cases hf
/-- how long the first i lists are in sum -/
def offs (C : Nat → List Int) : Nat → Nat
  | 0 => 0
  | i + 1 => offs C i + (C i).length
theorem offs_le {C : Nat → List Int} {M : Nat} (h : ∀ i, (C i).length ≤ M) (n : Nat) : offs C n ≤ M * n := by
  induction n with
  | zero => simp [offs]
  | succ n ih =>
    have := h n
    simp only [offs, Nat.mul_succ]
    omega
/-- the marks of n lists, from k on -/
def markF (k : Int) (C : Nat → List Int) (i : Nat) : List Int := marks (k + (offs C i : Int)) (C i).length
def getF (L : List (List Int)) (i : Nat) : List Int := L.getD i []
theorem getF_snoc_lt {L : List (List Int)} {x : List Int} {i : Nat} (h : i < L.length) : getF (L ++ [x]) i = getF L i := by
  simp [getF, List.getD, List.getElem?_append_left h]
theorem getF_snoc_eq {L : List (List Int)} {x : List Int} : getF (L ++ [x]) L.length = x := by
  simp [getF, List.getD]
/-- append(v, []int64..) for a slice that lies in the block before the last one. -/
theorem wpList_pushL {P : Program} {ops : Array Oper} {rest : List Oper} {o : Oper} {a : Act} {Q : Exit → Act → World → Prop} {w : World} (hgd : o.guard = none) (s x : Operand) (t : TypeId)
    (ho : o.op = .call { callee := .builtin .append, args := #[s, x], argTypes := #[t, t] }) (base : Nat) (tt ti : TypeId) (ht : P.underlying t = some (.slice tt))
    (hi : (P.info? tt).map (fun i => (i.zero, i.size, i.bytes)) = some (some (.slice none 0 0), 1, 24))
    (v : Value) (L : List (List Int)) (y : List Int) (arr : Array Value) (harr : arr.size = y.length) (hy : ∀ i (h : i < y.length), arr[i]? = some (.int .i64 y[i]))
    (hs : a.eval s = v) (R : RowF tt ti w base w.heap.size v L.length (getF L)) (c : Nat) (hx : a.eval x = .slice (some ⟨w.heap.size + 1, 0, none⟩) 1 c) (hn : L.length ≤ 1048577) (hbase : base ≤ w.heap.size)
    (hne : tt ≠ ti)
    (h : ∀ v' w', RowF tt ti w' base w'.heap.size v' (L ++ [y]).length (getF (L ++ [y])) → Below base w w' → wpList P ops Q rest (a.put o.dst v') w') :
    wpList P ops Q (o :: rest) a ((w.alloc (.cells arr ti)).alloc (.cells #[.slice (some ⟨w.heap.size, 0, none⟩) y.length y.length] tt)) := by
  obtain ⟨hs', h1, h2, h3, h4, h5⟩ := R
  have e1 : (w.alloc (.cells arr ti)).heap.size = w.heap.size + 1 := by simp
  have hb1 : Below w.heap.size w ((w.alloc (.cells arr ti)).alloc (.cells #[.slice (some ⟨w.heap.size, 0, none⟩) y.length y.length] tt)) := Bel.alloc (Bel.alloc (Below.refl _ _) _) _
  have hnew := Box.new (w.alloc (.cells arr ti)) tt #[.slice (some ⟨w.heap.size, 0, none⟩) y.length y.length]
  rw [e1] at hnew
  have hin : Box ti ((w.alloc (.cells arr ti)).alloc (.cells #[.slice (some ⟨w.heap.size, 0, none⟩) y.length y.length] tt)) w.heap.size arr := (Box.new w ti arr).alloc _
  refine wpList_push hgd s x t ho base tt (.slice none 0 0) 1 24 ht hi rfl (by decide) (by decide) hc v hs' (w.heap.size, y.length) hs (h2.below hb1) (w.heap.size + 1) c hx rfl (fun j u hu => ?_) (fun u hu => ?_) (by omega) (by have := hb1.size; omega) fun v' w' hr hg hb => h v' w' ?_ ?_
  · rw [hnew.cell j]; simpa [hc] using hu
  · simp only [hc, List.mem_singleton] at hu; subst hu; rfl
  · have hOin : Own intc 1 ti ((w.alloc (.cells arr ti)).alloc (.cells #[.slice (some ⟨w.heap.size, 0, none⟩) y.length y.length] tt)) w.heap.size y := by
      refine ⟨arr, hin, by omega, fun i hi j u hu => ?_⟩
      have hj : j = 0 := by
        have := (List.getElem?_eq_some_iff.1 hu).1
        simp [intc] at this; exact this
      subst hj
      rw [Nat.mul_one, Nat.add_zero, hy i hi]
      simpa [intc] using hu
    have hsz := hg.size
    have hsz2 := hb1.size
    have hl3 := hin.lt
    refine ⟨hs' ++ [(w.heap.size, y.length)], by simp [h1], hr, fun g hgg => hr.own_lt hgg, fun i hi => ?_, fun i j hi hj hij => ?_⟩
    · rcases Nat.lt_or_ge i hs'.length with hlt | hge
      · obtain ⟨a1, a2, a3, a4⟩ := h4 i hlt
        rw [List.getElem_append_left hlt, getF_snoc_lt (by omega)]
        have a5 := a4.below hb1
        exact ⟨a1, a2, by have := a5.arr.1; omega, a5.of_same (hg.block _ a5.arr.1 (fun e => RowF.block_ne hne (h2.below hb1) a5 e.symm))⟩
      · have e : i = L.length := by simp at hi; omega
        subst e
        rw [List.getElem_append_right hge, getF_snoc_eq]
        have e0 : L.length - hs'.length = 0 := by omega
        simp only [e0, List.getElem_cons_zero]
        exact ⟨by trivial, hbase, by omega, hOin.of_same (hg.block _ hl3 (fun e => RowF.block_ne hne (h2.below hb1) hOin e.symm))⟩
    · have key : ∀ i (hi : i < (hs' ++ [(w.heap.size, y.length)]).length), (i < hs'.length ∧ (hs' ++ [(w.heap.size, y.length)])[i].1 < w.heap.size) ∨ (i = hs'.length ∧ (hs' ++ [(w.heap.size, y.length)])[i].1 = w.heap.size) := fun i hi => by
        rcases Nat.lt_or_ge i hs'.length with hlt | hge
        · refine Or.inl ⟨hlt, ?_⟩
          rw [List.getElem_append_left hlt]
          exact (h4 i hlt).2.2.1
        · have e : i = hs'.length := by simp at hi; omega
          refine Or.inr ⟨e, ?_⟩
          subst e
          simp
      rcases key i hi with ⟨b1, b2⟩ | ⟨b1, b2⟩ <;> rcases key j hj with ⟨b3, b4⟩ | ⟨b3, b4⟩
      · rw [List.getElem_append_left b1, List.getElem_append_left b3] at hij
        exact h5 i j b1 b3 hij
      · omega
      · omega
      · omega
  · exact (hb1.mono hbase).trans hb
end Go.Proofs.Ytcjalooaikfkbaa
