/- Small laws on worlds, slices and drawn regions; no program in sight. -/
import Derived.WalkKit
import Derived.WalkSpells
import Derived.WalkLawsBesides
import Derived.Lib.Hide
import Derived.Deep.QuietTactic
import Derived.BigQuiet
namespace Go.Proofs.Ytnkmnjgldjjhfaa
open Go.RowKit

/-- Worlds behind W in which nothing that was there has changed. -/
structure Past (W : World) where
  w : World
  h : Below W.heap.size W w
instance (W : World) : Nonempty (Past W) := ⟨⟨W, Below.refl _ _⟩⟩

theorem Bel.trans {a b c : World} (h : Below a.heap.size a b) (k : Below b.heap.size b c) : Below a.heap.size a c := h.trans (k.mono h.size)
theorem Bel.alloc {a w : World} (h : Below a.heap.size a w) (o : Obj) : Below a.heap.size a (w.alloc o) := h.alloc h.size o
theorem Bel.drewN {B : Nat} {a w : World} (h : Below B a w) (n : Nat) : Below B a (w.drewN n) := ⟨h.os, h.tape, h.output, h.size, h.block⟩
theorem Bel.setCell {a w : World} (h : Below a.heap.size a w) {p : Addr} (hp : a.heap.size ≤ p.block) (u : Value) : Below a.heap.size a (w.setCell p u) := h.setCell hp u

section
variable {P : Program} {f : FuncId} {args : Array Value} {W : World}
theorem Past.call {v : Value} (x : Past W) (h : Calls P f args x.w fun e w' => e = .returned v ∧ Below x.w.heap.size x.w w') :
    Calls P f args x.w fun e w'' => e = .returned v ∧ ∃ y : Past W, w'' = y.w :=
  h.mono fun _ _ ⟨he, hb⟩ => ⟨he, ⟨_, Bel.trans x.h hb⟩, rfl⟩
theorem Past.callB {v b : Bool} (x : Past W) (hv : v = b) (h : Calls P f args x.w fun e w' => e = .returned (.bool v) ∧ Below x.w.heap.size x.w w') :
    Calls P f args x.w fun e w'' => e = .returned (.bool b) ∧ ∃ y : Past W, w'' = y.w := Past.call x (hv ▸ h)
theorem Past.same {v : Value} (x : Past W) (h : Calls P f args x.w fun e w' => e = .returned v ∧ x.w = w') :
    Calls P f args x.w fun e w'' => e = .returned v ∧ ∃ y : Past W, w'' = y.w :=
  h.mono fun _ _ ⟨he, hb⟩ => ⟨he, x, hb.symm⟩
theorem Past.sameB {v b : Bool} (x : Past W) (hv : v = b) (h : Calls P f args x.w fun e w' => e = .returned (.bool v) ∧ x.w = w') :
    Calls P f args x.w fun e w'' => e = .returned (.bool b) ∧ ∃ y : Past W, w'' = y.w := Past.same x (hv ▸ h)
theorem Calls.boolIs {v b : Bool} {R : World → Prop} (hv : v = b) (h : Calls P f args W fun e w' => e = .returned (.bool v) ∧ R w') :
    Calls P f args W fun e w' => e = .returned (.bool b) ∧ R w' := hv ▸ h
end
theorem Calls.quiet_of_same' {P : Program} {f : FuncId} {args : Array Value} {w : World} {n : Nat} {v : Value}
    (h : Calls P f args (w.drewN n) fun e w' => e = .returned v ∧ w.drewN n = w') : Calls P f args (w.drewN n) fun e w'' => e = .returned v ∧ ∃ m, w'' = w.drewN m :=
  h.mono fun _ _ ⟨he, hm⟩ => ⟨he, n, hm.symm⟩
theorem Past.cell {W : World} {p : Addr} {v : Value} (h : W.cell? p = some v) (hb : p.block < W.heap.size) : ∀ x : Past W, x.w.cell? p = some v :=
  fun x => (x.h.cell hb).trans h
theorem wp_region_past {P : Program} {id : Nat} {Q : Exit → Act → World → Prop} {a : Act} {w : World} {l : List Oper} (hm : P.follows .mixedOrders = true) (hB : Region.lexB .any l.toArray = true)
    (h : wpQuiet P l.toArray (fun w' => ∃ x : Past w, w' = x.w) (fun a' => ∀ w', (∃ x : Past w, w' = x.w) → Q .normal a' w') l a) : (Code.region id l.toArray true).wp P Q a w :=
  wp_region_quiet (C := fun w' => ∃ x : Past w, w' = x.w) hm hB ⟨⟨w.drew, (Below.refl _ _).drew⟩, rfl⟩ (by simpa using h)
/-- A new block: the world behind it under a name. -/
theorem wp_alloc_out {P : Program} {c : Code} {Q : Exit → Act → World → Prop} {a : Act} {w : World} {cs : Array Value} {t : TypeId}
    (h : ∀ W, Below w.heap.size w W → W.heap.size = w.heap.size + 1 → (∀ j, W.cell? ⟨w.heap.size, j, none⟩ = cs[j]?) → (∀ j, W.frozen? ⟨w.heap.size, j, none⟩ = false) → c.wp P Q a W) :
    c.wp P Q a (w.alloc (.cells cs t)) := by
  refine h _ (Bel.alloc (Below.refl _ _) _) (by simp) (fun j => ?_) (fun j => ?_)
  · exact cell_of_row (w.alloc (.cells cs t)) w.heap.size j cs t (0, 0) (heap_alloc_new w _)
  · unfold World.frozen?
    rw [heap_alloc_new w (.cells cs t)]
    simp

/-- The slice's row in block b, from its head on, reads as the list xs; an element x takes the cells cs x, sz of them. -/
def Arr {α : Type} (cs : α → List Value) (sz : Nat) (w : World) (b : Nat) (xs : List α) : Prop :=
  b < w.heap.size ∧ ∀ (i : Nat) (h : i < xs.length) (j : Nat) (v : Value), (cs xs[i])[j]? = some v → w.cell? ⟨b, i * sz + j, none⟩ = some v
section
variable {α : Type} {cs : α → List Value} {sz : Nat} {w w' : World} {b : Nat} {xs : List α}
theorem Arr.get (A : Arr cs sz w b xs) {k : Nat} (hk : k < xs.length) (j o : Nat) {v : Value} (hv : (cs xs[k])[j]? = some v) (ho : k * sz + j = o) : w.cell? ⟨b, o, none⟩ = some v := ho ▸ A.2 k hk j v hv
theorem Arr.below (A : Arr cs sz w b xs) (h : Below w.heap.size w w') : Arr cs sz w' b xs :=
  ⟨Nat.lt_of_lt_of_le A.1 h.size, fun i hi j v hv => (h.cell (p := ⟨b, i * sz + j, none⟩) A.1).trans (A.2 i hi j v hv)⟩
theorem Arr.upto {B : Nat} (A : Arr cs sz w b xs) (hB : b < B) (h : Below B w w') : Arr cs sz w' b xs :=
  ⟨Nat.lt_of_lt_of_le A.1 h.size, fun i hi j v hv => (h.cell (p := ⟨b, i * sz + j, none⟩) hB).trans (A.2 i hi j v hv)⟩
end
/-- The row from ⟨b, o⟩ on reads as the list xs. -/
def ArgC {α : Type} (cs : α → List Value) (sz : Nat) (w : World) (b o : Nat) (xs : List α) : Prop :=
  b < w.heap.size ∧ ∀ (i : Nat) (h : i < xs.length) (j : Nat) (v : Value), (cs xs[i])[j]? = some v → w.cell? ⟨b, o + i * sz + j, none⟩ = some v
theorem ArgC.below {α : Type} {cs : α → List Value} {sz : Nat} {w w' : World} {b o B : Nat} {xs : List α} (h : ArgC cs sz w b o xs) (hb : Below B w w') (hB : b < B) : ArgC cs sz w' b o xs :=
  ⟨Nat.lt_of_lt_of_le h.1 hb.size, fun i hi j v hv => (hb.cell (p := ⟨b, o + i * sz + j, none⟩) hB).trans (h.2 i hi j v hv)⟩
/-- An argument's slice (nil let in) reads as the list xs. -/
def ArgS {α : Type} (cs : α → List Value) (sz : Nat) (w : World) (A : Option Addr) (xs : List α) : Prop := 0 < xs.length → ∃ b o, A = some ⟨b, o, none⟩ ∧ ArgC cs sz w b o xs
theorem ArgS.below {α : Type} {cs : α → List Value} {sz : Nat} {w w' : World} {A : Option Addr} {xs : List α} (h : ArgS cs sz w A xs) (hb : Below w.heap.size w w') : ArgS cs sz w' A xs := fun hn => by
  obtain ⟨b, o, e, hc⟩ := h hn
  exact ⟨b, o, e, hc.below hb hc.1⟩
/-- Block g is a row of its own of element type t that holds just the list xs. -/
def Own {α : Type} (cs : α → List Value) (sz : Nat) (t : TypeId) (w : World) (g : Nat) (xs : List α) : Prop :=
  ∃ arr : Array Value, w.heap[g]? = some (.cells arr t (0, 0)) ∧ arr.size = xs.length * sz ∧ ∀ (i : Nat) (h : i < xs.length) (j : Nat) (v : Value), (cs xs[i])[j]? = some v → arr[i * sz + j]? = some v
theorem lt_of_heap {w : World} {g : Nat} {o : Obj} (h : w.heap[g]? = some o) : g < w.heap.size := by
  rcases Nat.lt_or_ge g w.heap.size with hlt | hge
  · exact hlt
  · rw [Array.getElem?_eq_none hge] at h; cases h
theorem Own.arr {α : Type} {cs : α → List Value} {sz : Nat} {t : TypeId} {w : World} {g : Nat} {xs : List α} (h : Own cs sz t w g xs) : Arr cs sz w g xs := by
  obtain ⟨arr, hh, _, hc⟩ := h
  exact ⟨lt_of_heap hh, fun i hi j v hv => (cell_of_row w g _ arr t (0, 0) hh).trans (hc i hi j v hv)⟩
theorem Own.upto {α : Type} {cs : α → List Value} {sz : Nat} {t : TypeId} {w w' : World} {g B : Nat} {xs : List α} (h : Own cs sz t w g xs) (hb : Below B w w') (hg : g < B) : Own cs sz t w' g xs := by
  obtain ⟨arr, hh, h2, h3⟩ := h
  exact ⟨arr, (hb.block g hg).trans hh, h2, h3⟩
theorem Own.below {α : Type} {cs : α → List Value} {sz : Nat} {t : TypeId} {w w' : World} {g : Nat} {xs : List α} (h : Own cs sz t w g xs) (hb : Below w.heap.size w w') : Own cs sz t w' g xs := h.upto hb h.arr.1
theorem mk_slice {P : Program} (t e : TypeId) (z : Value) (sz by_ : Nat) (ht : P.underlying t = some (.slice e)) (hi : (P.info? e).map (fun i => (i.zero, i.size, i.bytes)) = some (some z, sz, by_))
    (hb : by_ ≤ 200) (n : Nat) (hn : n ≤ 1048576) : ∀ W : World, (Instr.makeSlice t (.int .i64 (n : Int)) (.int .i64 (n : Int))).run P W = .ok (.slice (some ⟨W.heap.size, 0, none⟩) n n) (W.alloc (.cells (madeCells z.cells (n * sz)) e)) := by
  intro W
  obtain ⟨i, h1, h2⟩ := Option.map_eq_some_iff.1 hi
  simp only [Prod.mk.injEq] at h2
  obtain ⟨h2, h3, h4⟩ := h2
  have hbn : i.bytes * n ≤ 200 * 1048576 := Nat.mul_le_mul (by omega) hn
  have hb2 : (i.bytes : Int) * (n : Int) ≤ 281474976710656 := by
    have : ((i.bytes * n : Nat) : Int) ≤ 281474976710656 := by omega
    rwa [Int.natCast_mul] at this
  have hr := run_make (P := P) (w := W) t e i z ht h1 h2 .i64 .i64 n n (by omega) (by omega) hb2 (by omega)
  simp only [Int.toNat_natCast, h3] at hr
  exact hr
theorem heap_set {w : World} {g i : Nat} {arr : Array Value} {t : TypeId} (h : w.heap[g]? = some (.cells arr t (0, 0))) (u : Value) :
    (w.setCell ⟨g, i, none⟩ u).heap[g]? = some (.cells (arr.setIfInBounds i u) t (0, 0)) := by
  simp [World.setCell, Array.getElem?_modify, h]
theorem heap_room {w : World} {g i : Nat} {arr : Array Value} {t : TypeId} (h : w.heap[g]? = some (.cells arr t (0, 0))) (hi : i < arr.size) :
    ∃ u, w.cell? ⟨g, i, none⟩ = some u ∧ w.frozen? ⟨g, i, none⟩ = false := by
  refine ⟨arr[i], ?_, by unfold World.frozen?; rw [h]; simp⟩
  rw [cell_of_row w g i arr t (0, 0) h, Array.getElem?_eq_getElem hi]
/-- As Own, but the first k elements alone are known. -/
def Part {α : Type} (cs : α → List Value) (sz : Nat) (t : TypeId) (w : World) (g : Nat) (xs : List α) (k : Nat) : Prop :=
  ∃ arr : Array Value, w.heap[g]? = some (.cells arr t (0, 0)) ∧ arr.size = xs.length * sz ∧ ∀ (i : Nat) (h : i < xs.length), i < k → ∀ (j : Nat) (v : Value), (cs xs[i])[j]? = some v → arr[i * sz + j]? = some v
def setAll (w : World) (g : Nat) : Nat → List Value → World
  | _, [] => w
  | o, v :: r => setAll (w.setCell ⟨g, o, none⟩ v) g (o + 1) r
theorem Bel.setAll {a : World} {g : Nat} (hg : a.heap.size ≤ g) : ∀ (l : List Value) (o : Nat) {w : World}, Below a.heap.size a w → Below a.heap.size a (Go.Proofs.Ytnkmnjgldjjhfaa.setAll w g o l)
  | [], _, _, h => h
  | v :: r, o, _, h => Bel.setAll hg r (o + 1) (h.setCell (p := ⟨g, o, none⟩) hg v)
section
variable {α : Type} {cs : α → List Value} {sz : Nat} {t : TypeId} {w w' : World} {g k : Nat} {xs : List α}
theorem Part.own (h : Part cs sz t w g xs k) (hk : xs.length ≤ k) : Own cs sz t w g xs := by
  obtain ⟨arr, h1, h2, h3⟩ := h
  exact ⟨arr, h1, h2, fun i hi => h3 i hi (by omega)⟩
theorem Part.lt (h : Part cs sz t w g xs k) : g < w.heap.size := by
  obtain ⟨arr, h1, _⟩ := h
  exact lt_of_heap h1
theorem Part.upto {B : Nat} (h : Part cs sz t w g xs k) (hb : Below B w w') (hg : g < B) : Part cs sz t w' g xs k := by
  obtain ⟨arr, hh, h2, h3⟩ := h
  exact ⟨arr, (hb.block g hg).trans hh, h2, h3⟩
theorem Part.room (h : Part cs sz t w g xs k) {i : Nat} (hi : i < xs.length * sz) : ∃ u, w.cell? ⟨g, i, none⟩ = some u ∧ w.frozen? ⟨g, i, none⟩ = false := by
  obtain ⟨arr, hh, h2, _⟩ := h
  exact heap_room hh (by omega)
theorem Own.room (h : Own cs sz t w g xs) {i : Nat} (hi : i < xs.length * sz) : ∃ u, w.cell? ⟨g, i, none⟩ = some u ∧ w.frozen? ⟨g, i, none⟩ = false := by
  obtain ⟨arr, hh, h2, _⟩ := h
  exact heap_room hh (by omega)
theorem Part.made (z : Array Value) (w : World) (xs : List α) : Part cs sz t (w.alloc (.cells (madeCells z (xs.length * sz)) t)) w.heap.size xs 0 :=
  ⟨_, heap_alloc_new w _, size_madeCells _ _, fun i _ h0 => absurd h0 (by omega)⟩
theorem setAll_heap : ∀ (l : List Value) (w : World) (o : Nat) (arr : Array Value), w.heap[g]? = some (.cells arr t (0, 0)) → o + l.length ≤ arr.size →
    ∃ arr', (setAll w g o l).heap[g]? = some (.cells arr' t (0, 0)) ∧ arr'.size = arr.size ∧ (∀ j v, l[j]? = some v → arr'[o + j]? = some v) ∧ ∀ i, i < o → arr'[i]? = arr[i]?
  | [], w, o, arr, h, _ => ⟨arr, h, rfl, fun j v hv => by simp at hv, fun _ _ => rfl⟩
  | v :: r, w, o, arr, h, hl => by
    simp only [List.length_cons] at hl
    obtain ⟨arr', h1, h2, h3, h4⟩ := setAll_heap r (w.setCell ⟨g, o, none⟩ v) (o + 1) (arr.setIfInBounds o v) (heap_set h v) (by simp; omega)
    refine ⟨arr', h1, by simpa using h2, fun j u hu => ?_, fun i hi => ?_⟩
    · cases j with
      | zero =>
        have e := h4 o (by omega)
        simp only [List.getElem?_cons_zero, Option.some.injEq] at hu
        subst hu
        rw [Nat.add_zero, e, Array.getElem?_setIfInBounds_self_of_lt (by omega)]
      | succ j =>
        rw [show o + (j + 1) = o + 1 + j by omega]
        exact h3 j u (by simpa using hu)
    · rw [h4 i (by omega), Array.getElem?_setIfInBounds_ne (by omega)]
theorem Part.step (h : Part cs sz t w g xs k) (hk : k < xs.length) (hsz : ∀ x, (cs x).length = sz) : Part cs sz t (setAll w g (k * sz) (cs xs[k])) g xs (k + 1) := by
  obtain ⟨arr, h1, h2, h3⟩ := h
  have hle : k * sz + sz ≤ xs.length * sz := by
    have := Nat.mul_le_mul_right sz (show k + 1 ≤ xs.length by omega)
    rw [Nat.succ_mul] at this; exact this
  obtain ⟨arr', a1, a2, a3, a4⟩ := setAll_heap (cs xs[k]) w (k * sz) arr h1 (by rw [hsz]; omega)
  refine ⟨arr', a1, by omega, fun i hi hik j v hv => ?_⟩
  by_cases e : i = k
  · subst e; exact a3 j v hv
  · have hj : j < (cs xs[i]).length := (List.getElem?_eq_some_iff.1 hv).1
    have h0 := h3 i hi (by omega) j v hv
    rw [← h0]
    refine a4 _ ?_
    have hlt : i * sz + j < arr.size := (Array.getElem?_eq_some_iff.1 h0).1
    have h5 : i * sz + sz ≤ k * sz := by
      have := Nat.mul_le_mul_right sz (show i + 1 ≤ k by omega)
      rw [Nat.succ_mul] at this; exact this
    rw [hsz] at hj
    omega
end
def intc (n : Int) : List Value := [.int .i64 n]

theorem all_range_snoc {p : Nat → Bool} {k : Nat} (h : (List.range k).all p = true) (hk : p k = true) : (List.range (k+1)).all p = true := by
  rw [List.range_succ, List.all_append, h]; simpa using hk
theorem all_range_no {p : Nat → Bool} {n k : Nat} (hk : k < n) (h : p k = false) : (List.range n).all p = false := by
  rw [List.all_eq_false]; exact ⟨k, by simpa using hk, by simp [h]⟩
/-- How many numbers below n have a property. -/
def cntR (p : Nat → Bool) (n : Nat) : Nat := ((List.range n).filter p).length
theorem cntR_0 (p : Nat → Bool) : cntR p 0 = 0 := rfl
theorem cntR_yes {p : Nat → Bool} {n : Nat} (h : p n = true) : cntR p (n + 1) = cntR p n + 1 := by simp [cntR, List.range_succ, List.filter_append, h]
theorem cntR_no {p : Nat → Bool} {n : Nat} (h : p n = false) : cntR p (n + 1) = cntR p n := by simp [cntR, List.range_succ, List.filter_append, h]
theorem cntR_le (p : Nat → Bool) (n : Nat) : cntR p n ≤ n := by
  have := List.length_filter_le p (List.range n)
  simpa [cntR] using this
theorem ret_int2 {k k' : IntKind} {a b a' b' : Int} (h : a = b) (h' : a' = b') : Ending.returned (.tuple #[.int k a, .int k' a']) = .returned (.tuple #[.int k b, .int k' b']) := by rw [h, h']
theorem ret_int3 {k k' k2 : IntKind} {a b a' b' a2 b2 : Int} (h : a = b) (h' : a' = b') (h2 : a2 = b2) : Ending.returned (.tuple #[.int k a, .int k' a', .int k2 a2]) = .returned (.tuple #[.int k b, .int k' b', .int k2 b2]) := by rw [h, h', h2]
theorem ret_int {k : IntKind} {a b : Int} (h : a = b) : Ending.returned (.int k a) = .returned (.int k b) := by rw [h]
theorem ret_bool {a b : Bool} (h : a = b) : Ending.returned (.bool a) = .returned (.bool b) := by rw [h]
/-- low ≤ n ≤ high -/
def inr (lo hi n : Int) : Bool := decide (lo ≤ n) && decide (n ≤ hi)
/-- The nearest quotient by a positive number, halves away from 0. -/
def rdiv (a b : Int) : Int := if a < 0 then -((b - 2 * a) / (2 * b)) else (2 * a + b) / (2 * b)
theorem tdiv_bd (a b : Int) (hb : 0 < b) (h1 : -1000000000000000 ≤ a) (h2 : a ≤ 1000000000000000) : -1000000000000000 ≤ a.tdiv b ∧ a.tdiv b ≤ 1000000000000000 := by
  rcases Int.lt_or_le a 0 with h | h
  · have e : a.tdiv b = -((-a) / b) := by
      rw [← Int.neg_neg a, Int.neg_tdiv, Int.tdiv_eq_ediv_of_nonneg (by omega), Int.neg_neg]
    have h3 : 0 ≤ (-a) / b := Int.ediv_nonneg (by omega) (by omega)
    have h4 : (-a) / b ≤ -a := Int.ediv_le_self _ (by omega)
    omega
  · rw [Int.tdiv_eq_ediv_of_nonneg h]
    have h3 : 0 ≤ a / b := Int.ediv_nonneg h (by omega)
    have h4 : a / b ≤ a := Int.ediv_le_self _ h
    omega
theorem tmod_bd (a b : Int) (hb : 0 < b) : -b < a.tmod b ∧ a.tmod b < b := ⟨by have := Int.lt_tmod_of_pos a hb; omega, Int.tmod_lt_of_pos a hb⟩
theorem half_up (a b : Int) (hb : 0 < b) (h : b ≤ 2 * (a % b)) : (2 * a + b) / (2 * b) = a / b + 1 := by
  have e := Int.mul_ediv_add_emod a b
  have m := Int.emod_lt_of_pos a hb
  have : 2 * a + b = (2 * (a % b) - b) + (2 * b) * (a / b + 1) := by
    have e2 : (2 * b) * (a / b + 1) = 2 * (b * (a / b)) + 2 * b := by rw [Int.mul_add, Int.mul_assoc]; omega
    omega
  rw [this, Int.add_mul_ediv_left _ _ (by omega), Int.ediv_eq_zero_of_lt (by omega) (by omega)]; omega
theorem half_down (a b : Int) (hb : 0 < b) (h : 2 * (a % b) < b) : (2 * a + b) / (2 * b) = a / b := by
  have e := Int.mul_ediv_add_emod a b
  have m := Int.emod_nonneg a (show b ≠ 0 by omega)
  have : 2 * a + b = (2 * (a % b) + b) + (2 * b) * (a / b) := by
    have e2 : (2 * b) * (a / b) = 2 * (b * (a / b)) := by rw [Int.mul_assoc]
    omega
  rw [this, Int.add_mul_ediv_left _ _ (by omega), Int.ediv_eq_zero_of_lt (by omega) (by omega)]; omega
theorem tdiv_neg_eq (a b : Int) (h : a < 0) : a.tdiv b = -((-a) / b) := by
  have := Int.neg_tdiv (-a) b
  rw [Int.neg_neg, Int.tdiv_eq_ediv_of_nonneg (a := -a) (by omega)] at this; exact this
theorem tmod_neg_eq (a b : Int) (h : a < 0) : a.tmod b = -((-a) % b) := by
  have := Int.neg_tmod (-a) b
  rw [Int.neg_neg, Int.tmod_eq_emod_of_nonneg (a := -a) (by omega)] at this; exact this
theorem rdiv_up_pos (a b : Int) (hb : 0 < b) (ha : 0 ≤ a) (h : b - max (a.tmod b) (-(a.tmod b)) ≤ max (a.tmod b) (-(a.tmod b))) : rdiv a b = a.tdiv b + 1 := by
  rw [Int.tmod_eq_emod_of_nonneg ha] at h
  have m := Int.emod_nonneg a (show b ≠ 0 by omega)
  rw [rdiv, if_neg (by omega), Int.tdiv_eq_ediv_of_nonneg ha]
  exact half_up a b hb (by omega)
theorem rdiv_up_neg (a b : Int) (hb : 0 < b) (ha : a < 0) (h : b - max (a.tmod b) (-(a.tmod b)) ≤ max (a.tmod b) (-(a.tmod b))) : rdiv a b = a.tdiv b - 1 := by
  rw [tmod_neg_eq a b ha] at h
  have m := Int.emod_nonneg (-a) (show b ≠ 0 by omega)
  rw [rdiv, if_pos ha, tdiv_neg_eq a b ha]
  have := half_up (-a) b hb (by omega)
  rw [show b - 2 * a = 2 * -a + b by omega, this]; omega
theorem rdiv_down (a b : Int) (hb : 0 < b) (h : max (a.tmod b) (-(a.tmod b)) < b - max (a.tmod b) (-(a.tmod b))) : rdiv a b = a.tdiv b := by
  rcases Int.lt_or_le a 0 with ha | ha
  · rw [tmod_neg_eq a b ha] at h
    have m := Int.emod_nonneg (-a) (show b ≠ 0 by omega)
    have := half_down (-a) b hb (by omega)
    rw [rdiv, if_pos ha, tdiv_neg_eq a b ha, show b - 2 * a = 2 * -a + b by omega, this]
  · rw [Int.tmod_eq_emod_of_nonneg ha] at h
    have m := Int.emod_nonneg a (show b ≠ 0 by omega)
    rw [rdiv, if_neg (by omega), Int.tdiv_eq_ediv_of_nonneg ha]
    exact half_down a b hb (by omega)
theorem rd_1 {a b : Int} (hb : 0 < b) (h : max b (-b) - max (a.tmod b) (-a.tmod b) ≤ max (a.tmod b) (-a.tmod b)) (h' : (decide (a < 0) == decide (b < 0)) = true) : a.tdiv b + 1 = rdiv a b := by
  rw [decide_eq_false (show ¬ b < 0 by omega)] at h'
  exact (rdiv_up_pos a b hb (by simpa using h') (by omega)).symm
theorem rd_2 {a b : Int} (hb : 0 < b) (h : max b (-b) - max (a.tmod b) (-a.tmod b) ≤ max (a.tmod b) (-a.tmod b)) (h' : (decide (a < 0) == decide (b < 0)) = false) : a.tdiv b - 1 = rdiv a b := by
  rw [decide_eq_false (show ¬ b < 0 by omega)] at h'
  exact (rdiv_up_neg a b hb (by simpa using h') (by omega)).symm
theorem rd_3 {a b : Int} (hb : 0 < b) (h : max (a.tmod b) (-a.tmod b) < max b (-b) - max (a.tmod b) (-a.tmod b)) : a.tdiv b = rdiv a b := (rdiv_down a b hb (by omega)).symm
theorem rdiv_bd (a b : Int) (hb : 0 < b) (h1 : -1000000000000000 ≤ a) (h2 : a ≤ 1000000000000000) : -1000000000000001 ≤ rdiv a b ∧ rdiv a b ≤ 1000000000000001 := by
  have t := tdiv_bd a b hb h1 h2
  rcases Int.lt_or_le (max (a.tmod b) (-(a.tmod b))) (b - max (a.tmod b) (-(a.tmod b))) with h | h
  · rw [rdiv_down a b hb h]; omega
  · rcases Int.lt_or_le a 0 with ha | ha
    · rw [rdiv_up_neg a b hb ha h]; omega
    · rw [rdiv_up_pos a b hb ha h]; omega
end Go.Proofs.Ytnkmnjgldjjhfaa
