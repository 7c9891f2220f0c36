/- Rows of bools. -/
import Derived.Test.YtinijfdopkohfaaApp
namespace Go.Proofs.Ytinijfdopkohfaa
set_option linter.unusedSimpArgs false
set_option linter.unusedVariables false
open Go.RowKit
set_option maxHeartbeats 400000
def boolc (b : Bool) : List Value := [.bool b]
theorem argB {w : World} {b o k : Nat} {xs : List Bool} (A : ArgC boolc 1 w b o xs) (hk : k < xs.length) : w.cell? ⟨b, o + k, none⟩ = some (.bool xs[k]) := by
  have := A.2 k hk 0 _ rfl
  rwa [Nat.mul_one, Nat.add_zero] at this
theorem setAll_far {w : World} {g g' : Nat} (h : g' ≠ g) : ∀ (l : List Value) (o : Nat) (w : World), (setAll w g o l).heap[g']? = w.heap[g']?
  | [], _, _ => rfl
  | v :: r, o, w => (setAll_far (w := w) h r (o + 1) (w.setCell ⟨g, o, none⟩ v)).trans (Below.heap_setCell w ⟨g, o, none⟩ v g' h)
theorem Part.far {α : Type} {cs : α → List Value} {sz : Nat} {t : TypeId} {w w' : World} {g k : Nat} {xs : List α} (h : Part cs sz t w g xs k) (e : w'.heap[g]? = w.heap[g]?) : Part cs sz t w' g xs k := by
  obtain ⟨arr, hh, h2, h3⟩ := h
  exact ⟨arr, e.trans hh, h2, h3⟩
theorem Box.same {t : TypeId} {w w' : World} {g : Nat} {cs : Array Value} (h : Box t w g cs) (e : w'.heap[g]? = w.heap[g]?) : Box t w' g cs := e.trans h
theorem rowB_of {ti : TypeId} {w : World} {g base : Nat} {xs : List Bool} (O : Own boolc 1 ti w g xs) (hb : base ≤ g) (hn : xs.length ≤ 1048576) : Row boolc 1 ti w base (.slice (some ⟨g, 0, none⟩) xs.length xs.length) xs := by
  obtain ⟨arr, hh, h2, h3⟩ := O
  refine ⟨by rw [flat_len (sz := 1) (fun _ => rfl)], Or.inr ⟨g, xs.length, arr, rfl, hb, hh, Nat.le_refl _, by unfold maxLen; omega, h2, ?_⟩⟩
  apply List.ext_getElem?
  intro i
  rw [List.getElem?_take]
  by_cases hi : i < xs.length
  · rw [if_pos (by omega)]
    have h1 := flat_at (cs := boolc) (sz := 1) (fun _ => rfl) xs i hi 0 (.bool xs[i]) rfl
    rw [Nat.mul_one, Nat.add_zero] at h1
    have h4 := h3 i hi 0 (.bool xs[i]) rfl
    rw [Nat.mul_one, Nat.add_zero] at h4
    rw [h1]
    simpa using h4
  · rw [if_neg (by omega), List.getElem?_eq_none]
    rw [flat_len (sz := 1) (fun _ => rfl)]; omega
/-- append(v, b) for bools. -/
theorem wpList_pushB {P : Program} {ops : Array Oper} {rest : List Oper} {o : Oper} {a : Act} {Q : Exit → Act → World → Prop} {w : World} (hgd : o.guard = none) (s x : Operand) (t : TypeId)
    (ho : o.op = .call { callee := .builtin .append, args := #[s, x], argTypes := #[t, t] }) (base : Nat) (e : TypeId) (ht : P.underlying t = some (.slice e))
    (hi : (P.info? e).map (fun i => (i.zero, i.size, i.bytes)) = some (some (.bool false), 1, 1))
    (v : Value) (ys : List Bool) (y : Bool) (hs : a.eval s = v) (R : Row boolc 1 e w base v ys) (c : Nat) (hx : a.eval x = .slice (some ⟨w.heap.size, 0, none⟩) 1 c) (hn : ys.length ≤ 1048577) (hbase : base ≤ w.heap.size)
    (h : ∀ v' w', Row boolc 1 e w' base v' (ys ++ [y]) → w.grownBy w' v.ownBlock → Below base w w' → wpList P ops Q rest (a.put o.dst v') w') :
    wpList P ops Q (o :: rest) a (w.alloc (.cells #[.bool y] e)) := by
  refine wpList_push hgd s x t ho base e (.bool false) 1 1 ht hi rfl (by decide) (by decide) boolc v ys y hs (R.alloc _) w.heap.size c hx rfl (fun j u hu => ?_) (fun u hu => ?_) hn (by simp; omega) fun v' w' hr hg hb => h v' w' hr ?_ ?_
  · rw [(Box.new w e #[.bool y]).cell j]; simpa [boolc] using hu
  · simp only [boolc, List.mem_singleton] at hu; subst hu; rfl
  · exact ⟨hg.os, hg.tape, hg.output, Nat.le_trans (by simp) hg.size, fun k hk hne => (hg.block k (by simp; omega) hne).trans (Below.heap_alloc w _ k hk)⟩
  · exact ((Below.refl base w).alloc hbase _).trans hb
end Go.Proofs.Ytinijfdopkohfaa
