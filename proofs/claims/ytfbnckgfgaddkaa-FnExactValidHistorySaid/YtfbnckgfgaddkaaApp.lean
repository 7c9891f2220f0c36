/- Slices that a call makes by append: what they hold, and how one more element is appended. No program in sight. -/
import Derived.Test.YtfbnckgfgaddkaaTypes
namespace Go.Proofs.Ytfbnckgfgaddkaa
set_option linter.unusedSimpArgs false
set_option linter.unusedVariables false
open Go.RowKit

/-- The slice value v is one of the call's own (from block base on) and reads as the list ys. -/
def Row {α : Type} (cs : α → List Value) (sz : Nat) (t : TypeId) (w : World) (base : Nat) (v : Value) (ys : List α) : Prop := w.ownsRow base t sz v ys.length (ys.flatMap cs)
theorem flat_len {α : Type} {cs : α → List Value} {sz : Nat} (hsz : ∀ x, (cs x).length = sz) (ys : List α) : (ys.flatMap cs).length = ys.length * sz := by
  induction ys with
  | nil => simp
  | cons y r ih => simp only [List.flatMap_cons, List.length_append, ih, hsz, List.length_cons, Nat.succ_mul]; omega
theorem flat_at {α : Type} {cs : α → List Value} {sz : Nat} (hsz : ∀ x, (cs x).length = sz) : ∀ (ys : List α) (i : Nat) (h : i < ys.length) (j : Nat) (v : Value), (cs ys[i])[j]? = some v → (ys.flatMap cs)[i * sz + j]? = some v
  | [], i, h, _, _, _ => absurd h (Nat.not_lt_zero i)
  | y :: r, 0, _, j, v, hv => by
    simp only [List.getElem_cons_zero] at hv
    have hj : j < (cs y).length := (List.getElem?_eq_some_iff.1 hv).1
    rw [List.flatMap_cons, Nat.zero_mul, Nat.zero_add, List.getElem?_append_left hj]; exact hv
  | y :: r, i + 1, h, j, v, hv => by
    simp only [List.getElem_cons_succ] at hv
    have ih := flat_at hsz r i (by simpa using h) j v hv
    rw [List.flatMap_cons, List.getElem?_append_right (by rw [hsz, Nat.succ_mul]; omega), hsz, Nat.succ_mul, show i * sz + sz + j - sz = i * sz + j by omega]; exact ih
section
variable {α : Type} {cs : α → List Value} {sz : Nat} {t : TypeId} {w w' : World} {base : Nat} {v : Value} {ys : List α}
theorem Row.nil : Row cs sz t w base (.slice none 0 0) ([] : List α) := ⟨by simp, Or.inl ⟨rfl, rfl⟩⟩
theorem Row.empty {w0 : World} {B : Nat} (hB : B ≤ w0.heap.size) : Row cs sz t (w0.alloc (.cells #[] t)) B (.slice (some ⟨w0.heap.size, 0, none⟩) 0 0) ([] : List α) :=
  ⟨by simp, Or.inr ⟨w0.heap.size, 0, #[], rfl, hB, heap_alloc_new w0 _, Nat.le_refl _, Nat.zero_le _, by simp, by simp⟩⟩
theorem Row.form (R : Row cs sz t w base v ys) (hsz : ∀ x, (cs x).length = sz) : ∃ A c, v = .slice A ys.length c ∧ ArgS cs sz w A ys := by
  obtain ⟨h1, h2⟩ := R
  rcases h2 with ⟨h3, h4⟩ | ⟨g, cap, cur, h3, _, h5, h6, _, h8, h9⟩
  · exact ⟨none, 0, by rw [h4]; exact h3, fun h => absurd h (by omega)⟩
  · refine ⟨_, _, h3, fun hp => ⟨g, 0, rfl, lt_of_heap h5, fun i hi j u hu => ?_⟩⟩
    rw [Nat.zero_add, cell_of_row w g _ cur t (0, 0) h5]
    have hf := flat_at hsz ys i hi j u hu
    rw [← h9, List.getElem?_take] at hf
    split at hf
    · simpa using hf
    · cases hf
theorem Row.own_ge (R : Row cs sz t w base v ys) {g : Nat} (h : v.ownBlock = some g) : base ≤ g := by
  rcases R.2 with ⟨h3, _⟩ | ⟨g', _, _, h3, h4, _⟩
  · rw [h3] at h; simp [Value.ownBlock] at h
  · rw [h3] at h
    have : g' = g := by simpa [Value.ownBlock] using h
    omega
theorem Row.own_lt (R : Row cs sz t w base v ys) {g : Nat} (h : v.ownBlock = some g) : g < w.heap.size := by
  rcases R.2 with ⟨h3, _⟩ | ⟨g', _, _, h3, _, h5, _⟩
  · rw [h3] at h; simp [Value.ownBlock] at h
  · rw [h3] at h
    have : g' = g := by simpa [Value.ownBlock] using h
    subst this; exact lt_of_heap h5
theorem Row.of_same (R : Row cs sz t w base v ys) (h : ∀ g, v.ownBlock = some g → w'.heap[g]? = w.heap[g]?) : Row cs sz t w' base v ys := by
  refine ⟨R.1, ?_⟩
  rcases R.2 with h3 | ⟨g', cap, cur, h3, h4, h5, h6⟩
  · exact Or.inl h3
  · exact Or.inr ⟨g', cap, cur, h3, h4, (h g' (by rw [h3]; rfl)).trans h5, h6⟩
theorem Row.upto {B : Nat} (R : Row cs sz t w base v ys) (hb : Below B w w') (hB : w.heap.size ≤ B) : Row cs sz t w' base v ys :=
  R.of_same fun g hg => hb.block g (Nat.lt_of_lt_of_le (R.own_lt hg) hB)
theorem Row.below (R : Row cs sz t w base v ys) (hb : Below w.heap.size w w') : Row cs sz t w' base v ys := R.upto hb (Nat.le_refl _)
theorem Row.alloc (R : Row cs sz t w base v ys) (o : Obj) : Row cs sz t (w.alloc o) base v ys := R.below (Bel.alloc (Below.refl _ _) o)
theorem Row.grown (R : Row cs sz t w base v ys) {g : Nat} (hg : w.grownBy w' (some g)) (hne : v.ownBlock ≠ some g) : Row cs sz t w' base v ys :=
  R.of_same fun g' hg' => hg.block g' (R.own_lt hg') (fun e => hne (by rw [hg', e]))
theorem Row.grownO (R : Row cs sz t w base v ys) {row : Option Nat} (hg : w.grownBy w' row) (hne : ∀ g, v.ownBlock = some g → row ≠ some g) : Row cs sz t w' base v ys :=
  R.of_same fun g' hg' => hg.block g' (R.own_lt hg') (fun e => hne g' hg' e.symm)
theorem Row.argS {A : Option Addr} {n c : Nat} (R : Row cs sz t w base (.slice A n c) ys) (hsz : ∀ x, (cs x).length = sz) : ArgS cs sz w A ys := by
  obtain ⟨A', c', e, h⟩ := R.form hsz
  injection e with e1 _ _
  subst e1; exact h
theorem Row.lower (R : Row cs sz t w base v ys) {b : Nat} (h : b ≤ base) : Row cs sz t w b v ys := by
  refine ⟨R.1, ?_⟩
  rcases R.2 with h3 | ⟨g', cap, cur, h3, h4, h5⟩
  · exact Or.inl h3
  · exact Or.inr ⟨g', cap, cur, h3, by omega, h5⟩
end
theorem Own.argS {α : Type} {cs : α → List Value} {sz : Nat} {t : TypeId} {w : World} {g : Nat} {xs : List α} (h : Own cs sz t w g xs) : ArgS cs sz w (some ⟨g, 0, none⟩) xs := fun _ =>
  ⟨g, 0, rfl, h.arr.1, fun i hi j v hv => by rw [Nat.zero_add]; exact h.arr.2 i hi j v hv⟩
theorem Own.grown {α : Type} {cs : α → List Value} {sz : Nat} {t : TypeId} {w w' : World} {g g' : Nat} {xs : List α} (h : Own cs sz t w g xs) (hg : w.grownBy w' (some g')) (hne : g ≠ g') : Own cs sz t w' g xs := by
  obtain ⟨arr, hh, h2, h3⟩ := h
  exact ⟨arr, (hg.block g (lt_of_heap hh) (fun e => hne (by injection e))).trans hh, h2, h3⟩
theorem Box.grown {t : TypeId} {w w' : World} {g g' : Nat} {cs : Array Value} (h : Box t w g cs) (hg : w.grownBy w' (some g')) (hne : g ≠ g') : Box t w' g cs := (hg.block g h.lt (fun e => hne (by injection e))).trans h
theorem Box.grownO {t : TypeId} {w w' : World} {g : Nat} {row : Option Nat} {cs : Array Value} (h : Box t w g cs) (hg : w.grownBy w' row) (hne : row ≠ some g) : Box t w' g cs := (hg.block g h.lt (fun e => hne e.symm)).trans h
/-- append(v, y): one element more. -/
theorem wpList_push {P : Program} {ops : Array Oper} {rest : List Oper} {o : Oper} {a : Act} {Q : Exit → Act → World → Prop} {w : World} {α : Type} (hgd : o.guard = none) (s x : Operand) (t : TypeId)
    (ho : o.op = .call { callee := .builtin .append, args := #[s, x], argTypes := #[t, t] }) (base : Nat) (e : TypeId) (z : Value) (sz by_ : Nat) (ht : P.underlying t = some (.slice e))
    (hi : (P.info? e).map (fun i => (i.zero, i.size, i.bytes)) = some (some z, sz, by_)) (hzs : z.cells.size = sz) (hsz : 0 < sz) (hby : by_ ≤ 200)
    (cs : α → List Value) (v : Value) (ys : List α) (y : α) (hs : a.eval s = v) (R : Row cs sz e w base v ys) (g c : Nat) (hx : a.eval x = .slice (some ⟨g, 0, none⟩) 1 c)
    (hl : (cs y).length = sz) (hc : ∀ j u, (cs y)[j]? = some u → w.cell? ⟨g, j, none⟩ = some u) (h1 : ∀ u ∈ cs y, u.oneCell' = true) (hn : ys.length ≤ 1048577) (hbase : base ≤ w.heap.size)
    (h : ∀ v' w', Row cs sz e w' base v' (ys ++ [y]) → w.grownBy w' v.ownBlock → Below base w w' → wpList P ops Q rest (a.put o.dst v') w') : wpList P ops Q (o :: rest) a w := by
  obtain ⟨i, h1i, h2i, h3i, h4i⟩ := info_parts hi
  have hb : (ys.length + 1) * by_ ≤ 1048578 * 200 := Nat.mul_le_mul (by omega) hby
  refine wpList_append_own w hgd s x t ho base e i z sz by_ ht h1i h2i h3i h4i hzs hsz v ys.length (ys.flatMap cs) hs R ⟨g, 0, none⟩ 1 c (cs y) hx (by rw [hl, Nat.one_mul]) (fun j u hu => ?_) h1 (by unfold maxLen; omega) (by omega) hbase fun v' w' hr hg _ => ?_
  · rw [Go.WideShapes.add_plain, Nat.zero_add]; exact hc j u hu
  · refine h v' w' ?_ hg ?_
    · unfold Row
      rw [List.length_append, List.flatMap_append]
      simpa using hr
    · exact (Below.refl base w).grown hg hbase fun k hk => R.own_ge hk
/-- append(v, n) for integers: the new number lies in a block of its own. -/
theorem wpList_pushI {P : Program} {ops : Array Oper} {rest : List Oper} {o : Oper} {a : Act} {Q : Exit → Act → World → Prop} {w : World} (hgd : o.guard = none) (s x : Operand) (t : TypeId)
    (ho : o.op = .call { callee := .builtin .append, args := #[s, x], argTypes := #[t, t] }) (base : Nat) (e : TypeId) (ht : P.underlying t = some (.slice e))
    (hi : (P.info? e).map (fun i => (i.zero, i.size, i.bytes)) = some (some (.int .i64 0), 1, 8))
    (v : Value) (ys : List Int) (y : Int) (hs : a.eval s = v) (R : Row intc 1 e w base v ys) (c : Nat) (hx : a.eval x = .slice (some ⟨w.heap.size, 0, none⟩) 1 c) (hn : ys.length ≤ 1048577) (hbase : base ≤ w.heap.size)
    (h : ∀ v' w', Row intc 1 e w' base v' (ys ++ [y]) → w.grownBy w' v.ownBlock → Below base w w' → wpList P ops Q rest (a.put o.dst v') w') :
    wpList P ops Q (o :: rest) a (w.alloc (.cells #[.int .i64 y] e)) := by
  refine wpList_push hgd s x t ho base e (.int .i64 0) 1 8 ht hi rfl (by decide) (by decide) intc v ys y hs (R.alloc _) w.heap.size c hx rfl (fun j u hu => ?_) (fun u hu => ?_) hn (by simp; omega) fun v' w' hr hg hb => h v' w' hr ?_ ?_
  · rw [(Box.new w e #[.int .i64 y]).cell j]; simpa [intc] using hu
  · simp only [intc, List.mem_singleton] at hu; subst hu; rfl
  · exact ⟨hg.os, hg.tape, hg.output, Nat.le_trans (by simp) hg.size, fun k hk hne => (hg.block k (by simp; omega) hne).trans (Below.heap_alloc w _ k hk)⟩
  · exact ((Below.refl base w).alloc hbase _).trans hb
def strc (s : ByteArray) : List Value := [.string s]
/-- append(v, s) for texts. -/
theorem wpList_pushS {P : Program} {ops : Array Oper} {rest : List Oper} {o : Oper} {a : Act} {Q : Exit → Act → World → Prop} {w : World} (hgd : o.guard = none) (s x : Operand) (t : TypeId)
    (ho : o.op = .call { callee := .builtin .append, args := #[s, x], argTypes := #[t, t] }) (base : Nat) (e : TypeId) (ht : P.underlying t = some (.slice e))
    (hi : (P.info? e).map (fun i => (i.zero, i.size, i.bytes)) = some (some (.string ByteArray.empty), 1, 16))
    (v : Value) (ys : List ByteArray) (y : ByteArray) (hs : a.eval s = v) (R : Row strc 1 e w base v ys) (c : Nat) (hx : a.eval x = .slice (some ⟨w.heap.size, 0, none⟩) 1 c) (hn : ys.length ≤ 1048577) (hbase : base ≤ w.heap.size)
    (h : ∀ v' w', Row strc 1 e w' base v' (ys ++ [y]) → w.grownBy w' v.ownBlock → Below base w w' → wpList P ops Q rest (a.put o.dst v') w') :
    wpList P ops Q (o :: rest) a (w.alloc (.cells #[.string y] e)) := by
  refine wpList_push hgd s x t ho base e (.string ByteArray.empty) 1 16 ht hi rfl (by decide) (by decide) strc v ys y hs (R.alloc _) w.heap.size c hx rfl (fun j u hu => ?_) (fun u hu => ?_) hn (by simp; omega) fun v' w' hr hg hb => h v' w' hr ?_ ?_
  · rw [(Box.new w e #[.string y]).cell j]; simpa [strc] using hu
  · simp only [strc, List.mem_singleton] at hu; subst hu; rfl
  · exact ⟨hg.os, hg.tape, hg.output, Nat.le_trans (by simp) hg.size, fun k hk hne => (hg.block k (by simp; omega) hne).trans (Below.heap_alloc w _ k hk)⟩
  · exact ((Below.refl base w).alloc hbase _).trans hb
/-- The numbers k, k + 1, .., n of them. -/
def marks (k : Int) (n : Nat) : List Int := (List.range n).map fun i : Nat => k + (i : Int)
theorem marks_len (k : Int) (n : Nat) : (marks k n).length = n := by simp [marks]
theorem marks_at (k : Int) (n i : Nat) (h : i < (marks k n).length) : (marks k n)[i] = k + (i : Int) := by simp [marks]
theorem only_set {w wr : World} {g i : Nat} {p : Addr} (h : w.grownBy wr (some g)) (hp : p = ⟨g, i, none⟩) (u : Value) : w.grownBy (wr.setCell p u) (some g) := by
  subst hp
  exact ⟨h.os, h.tape, h.output, by simpa [World.setCell] using h.size, fun k hk hne => (Below.heap_setCell wr ⟨g, i, none⟩ u k (fun e => hne (by rw [e]))).trans (h.block k hk hne)⟩
theorem only_below {w wr w' : World} {row : Option Nat} (h : w.grownBy wr row) (hb : Below wr.heap.size wr w') : w.grownBy w' row :=
  ⟨hb.os.trans h.os, hb.tape.trans h.tape, hb.output.trans h.output, Nat.le_trans h.size hb.size, fun k hk hne => (hb.block k (Nat.lt_of_lt_of_le hk h.size)).trans (h.block k hk hne)⟩
theorem below_of_grown {w w' : World} {B g : Nat} (h : w.grownBy w' (some g)) (hB : B ≤ w.heap.size) (hg : B ≤ g) : Below B w w' :=
  (Below.refl B w).grown h hB fun k hk => by injection hk with hk; omega
theorem set_upto {cur : Array Value} {k : Int} {j : Nat} (h : ∀ m : Nat, m < j → cur[m]? = some (.int .i64 (k + m))) (hj : j < cur.size) :
    ∀ m : Nat, m < j + 1 → (cur.setIfInBounds j (.int .i64 (k + j)))[m]? = some (.int .i64 (k + m)) := fun m hm => by
  by_cases e : m = j
  · subst e; rw [Array.getElem?_setIfInBounds_self_of_lt hj]
  · rw [Array.getElem?_setIfInBounds_ne (by omega)]; exact h m (by omega)
theorem set_uptoV {cur : Array Value} {f : Nat → Value} {j : Nat} {v : Value} (h : ∀ m : Nat, m < j → cur[m]? = some (f m)) (hj : j < cur.size) (hv : v = f j) :
    ∀ m : Nat, m < j + 1 → (cur.setIfInBounds j v)[m]? = some (f m) := fun m hm => by
  by_cases e : m = j
  · subst e; rw [hv, Array.getElem?_setIfInBounds_self_of_lt hj]
  · rw [Array.getElem?_setIfInBounds_ne (by omega)]; exact h m (by omega)
theorem marks_take {cur : Array Value} {k : Int} {n : Nat} (h : ∀ m : Nat, m < n → cur[m]? = some (.int .i64 (k + m))) (hn : n ≤ cur.size) :
    cur.toList.take ((marks k n).length * 1) = (marks k n).flatMap intc := by
  apply List.ext_getElem?
  intro i
  rw [marks_len, Nat.mul_one, List.getElem?_take]
  by_cases hi : i < n
  · rw [if_pos hi]
    have h1 := flat_at (cs := intc) (sz := 1) (fun _ => rfl) (marks k n) i (by rw [marks_len]; exact hi) 0 (.int .i64 (k + i)) (by rw [marks_at]; rfl)
    rw [Nat.mul_one, Nat.add_zero] at h1
    rw [h1]
    simpa using h i hi
  · rw [if_neg hi, List.getElem?_eq_none]
    rw [flat_len (sz := 1) (fun _ => rfl), marks_len]; omega
end Go.Proofs.Ytfbnckgfgaddkaa
