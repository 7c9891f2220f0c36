/- Rows of structs: reading back, setting a field, appending a run of elements. No program in sight. -/
import Derived.Test.YtcjalooaikfkbaaSrcR
namespace Go.Proofs.Ytcjalooaikfkbaa
set_option linter.unusedSimpArgs false
set_option linter.unusedVariables false
open Go.RowKit
set_option maxHeartbeats 400000
theorem flatR_inv {α : Type} {cs : α → List Value} {sz : Nat} (hsz : ∀ x, (cs x).length = sz) (hp : 0 < sz) {ys : List α} {q : Nat} {u : Value} (h : (ys.flatMap cs)[q]? = some u) : ∃ hi : q / sz < ys.length, (cs ys[q / sz])[q % sz]? = some u := by
  have hlt : q < ys.length * sz := by
    have := (List.getElem?_eq_some_iff.1 h).1
    rwa [flat_len hsz] at this
  have hi : q / sz < ys.length := (Nat.div_lt_iff_lt_mul hp).2 hlt
  have hr : q % sz < (cs ys[q / sz]).length := by rw [hsz]; exact Nat.mod_lt _ hp
  obtain ⟨u', hu'⟩ : ∃ u', (cs ys[q / sz])[q % sz]? = some u' := ⟨_, List.getElem?_eq_getElem hr⟩
  have h2 := flat_at hsz ys (q / sz) hi (q % sz) u' hu'
  rw [show q / sz * sz + q % sz = q by rw [Nat.mul_comm]; exact Nat.div_add_mod q sz, h] at h2
  injection h2 with h2
  exact ⟨hi, by rw [hu', h2]⟩
theorem flatR_set {α : Type} {cs : α → List Value} {sz : Nat} (hsz : ∀ x, (cs x).length = sz) (hp : 0 < sz) {ys : List α} {i j : Nat} {y : α} {u : Value} (hi : i < ys.length) (hj : j < sz) (hy : cs y = (cs ys[i]).set j u) : (ys.flatMap cs).set (i * sz + j) u = (ys.set i y).flatMap cs := by
  have hb : i * sz + j < ys.length * sz := by
    have := Nat.mul_le_mul_right sz (show i + 1 ≤ ys.length by omega)
    rw [Nat.succ_mul] at this; omega
  apply List.ext_getElem?
  intro q
  by_cases hq : q < ys.length * sz
  · have hiq : q / sz < ys.length := (Nat.div_lt_iff_lt_mul hp).2 hq
    have hrq : q % sz < sz := Nat.mod_lt _ hp
    have eq1 : q / sz * sz + q % sz = q := by rw [Nat.mul_comm]; exact Nat.div_add_mod q sz
    have hsl : q / sz < (ys.set i y).length := by rw [List.length_set]; exact hiq
    obtain ⟨u', hu'⟩ : ∃ u', (cs ((ys.set i y)[q / sz]'hsl))[q % sz]? = some u' := ⟨_, List.getElem?_eq_getElem (by rw [hsz]; exact hrq)⟩
    have h2 := flat_at hsz (ys.set i y) (q / sz) hsl (q % sz) u' hu'
    rw [eq1] at h2
    rw [h2]
    by_cases e : q = i * sz + j
    · have e1 : q / sz = i := by rw [e, Nat.mul_comm, Nat.mul_add_div hp, Nat.div_eq_of_lt hj, Nat.add_zero]
      have e2 : q % sz = j := by rw [e, Nat.mul_comm, Nat.mul_add_mod, Nat.mod_eq_of_lt hj]
      have hs1 : (ys.set i y)[q / sz] = y := by simp only [e1]; simp
      rw [hs1, hy, e2, List.getElem?_set_self (by rw [hsz]; exact hj)] at hu'
      rw [e, List.getElem?_set_self (by rw [flat_len hsz]; exact hb), ← hu']
    · rw [List.getElem?_set_ne (fun h => e h.symm)]
      obtain ⟨u0, hu0⟩ : ∃ u0, (cs (ys[q / sz]'hiq))[q % sz]? = some u0 := ⟨_, List.getElem?_eq_getElem (by rw [hsz]; exact hrq)⟩
      have h3 := flat_at hsz ys (q / sz) hiq (q % sz) u0 hu0
      rw [eq1] at h3
      rw [h3, ← hu0, ← hu']
      by_cases ei : q / sz = i
      · have hne : q % sz ≠ j := fun h => e (by rw [← eq1, ei, h])
        have hs1 : (ys.set i y)[q / sz] = y := by simp only [ei]; simp
        rw [hs1, hy]
        simp only [ei]
        rw [List.getElem?_set_ne (fun h => hne h.symm)]
      · have hs1 : (ys.set i y)[q / sz] = ys[q / sz] := List.getElem_set_ne (fun h => ei h.symm) _
        rw [hs1]
  · rw [List.getElem?_eq_none (by rw [List.length_set, flat_len hsz]; omega), List.getElem?_eq_none (by rw [flat_len hsz, List.length_set]; omega)]
/-- A field of an element is set. -/
theorem Row.setF {α : Type} {cs : α → List Value} {sz : Nat} {t : TypeId} {w : World} {base g n c : Nat} {ys : List α} (hsz : ∀ x, (cs x).length = sz) (hp : 0 < sz) (R : Row cs sz t w base (.slice (some ⟨g, 0, none⟩) n c) ys) {i j : Nat} {y : α} {u : Value} (hi : i < ys.length) (hj : j < sz) (hy : cs y = (cs ys[i]).set j u) :
    Row cs sz t (w.setCell ⟨g, i * sz + j, none⟩ u) base (.slice (some ⟨g, 0, none⟩) n c) (ys.set i y) := by
  rcases R.2 with ⟨h3, _⟩ | ⟨g', cap, cur, h3, h5, h6, h7, h8, h9, h10⟩
  · cases h3
  · injection h3 with e1 e2 e3
    injection e1 with e1
    injection e1 with e1 _ _
    subst e1
    subst e2
    subst e3
    refine ⟨by rw [flat_len hsz], Or.inr ⟨g, c, _, by rw [List.length_set], h5, heap_set h6 u, by rw [List.length_set]; exact h7, h8, by simpa using h9, ?_⟩⟩
    rw [List.length_set, ← flatR_set hsz hp hi hj hy, ← h10]
    simp [List.take_set]
theorem Row.free {α : Type} {cs : α → List Value} {sz : Nat} {t : TypeId} {w : World} {base g n c : Nat} {ys : List α} (R : Row cs sz t w base (.slice (some ⟨g, 0, none⟩) n c) ys) (q : Nat) : w.frozen? ⟨g, q, none⟩ = false := by
  rcases R.2 with ⟨h3, _⟩ | ⟨g', cap, cur, h3, h5, h6, _⟩
  · cases h3
  · injection h3 with e1 e2 e3
    injection e1 with e1
    injection e1 with e1 _ _
    subst e1
    exact Box.free (t := t) (cs := cur) h6 q
theorem Row.at0 {α : Type} {cs : α → List Value} {sz : Nat} {t : TypeId} {w : World} {base g n c : Nat} {ys : List α} (hsz : ∀ x, (cs x).length = sz) (R : Row cs sz t w base (.slice (some ⟨g, 0, none⟩) n c) ys) {i : Nat} (hi : i < ys.length) {j : Nat} {v : Value} (hv : (cs ys[i])[j]? = some v) : w.cell? ⟨g, i * sz + j, none⟩ = some v := by
  obtain ⟨b, o, hA, hc⟩ := R.argS hsz (by omega)
  injection hA with hA
  injection hA with h1 h2 _
  subst h1
  subst h2
  have := hc.2 i hi j v hv
  rwa [Nat.zero_add] at this
/-- append(v, zs...): the elements lie in a row from ⟨g, o⟩ on. -/
theorem wpList_pushN {P : Program} {ops : Array Oper} {rest : List Oper} {o : Oper} {a : Act} {Q : Exit → Act → World → Prop} {w : World} {α : Type} (hgd : o.guard = none) (s x : Operand) (t : TypeId)
    (ho : o.op = .call { callee := .builtin .append, args := #[s, x], argTypes := #[t, t] }) (base : Nat) (e : TypeId) (z : Value) (sz by_ : Nat) (ht : P.underlying t = some (.slice e))
    (hi : (P.info? e).map (fun i => (i.zero, i.size, i.bytes)) = some (some z, sz, by_)) (hzs : z.cells.size = sz) (hsz : 0 < sz) (hby : by_ ≤ 200)
    (cs : α → List Value) (v : Value) (ys zs : List α) (hs : a.eval s = v) (R : Row cs sz e w base v ys) (g q c m : Nat) (hm : zs.length = m) (hx : a.eval x = .slice (some ⟨g, q, none⟩) m c)
    (hl : ∀ y, (cs y).length = sz) (hc : ∀ i (h : i < zs.length) j u, (cs zs[i])[j]? = some u → w.cell? ⟨g, q + i * sz + j, none⟩ = some u) (h1 : ∀ y, ∀ u ∈ cs y, u.oneCell' = true) (hn : ys.length + zs.length ≤ 1048577) (hbase : base ≤ w.heap.size)
    (h : ∀ v' w', Row cs sz e w' base v' (ys ++ zs) → (v.ownBlock ≠ none → v'.ownBlock ≠ none) → Below base w w' → wpList P ops Q rest (a.put o.dst v') w') : wpList P ops Q (o :: rest) a w := by
  subst hm
  obtain ⟨i, h1i, h2i, h3i, h4i⟩ := info_parts hi
  have hb : (ys.length + zs.length) * by_ ≤ 1048577 * 200 := Nat.mul_le_mul hn hby
  refine wpList_append_own w hgd s x t ho base e i z sz by_ ht h1i h2i h3i h4i hzs hsz v ys.length (ys.flatMap cs) hs R ⟨g, q, none⟩ zs.length c (zs.flatMap cs) hx (flat_len hl zs) (fun j u hu => ?_) (fun u hu => ?_) (by unfold maxLen; omega) (by omega) hbase fun v' w' hr hg he => ?_
  · rw [Go.WideShapes.add_plain]
    obtain ⟨hi2, hc2⟩ := flatR_inv hl hsz hu
    have := hc (j / sz) hi2 (j % sz) u hc2
    rwa [Nat.add_assoc, show j / sz * sz + j % sz = j by rw [Nat.mul_comm]; exact Nat.div_add_mod j sz] at this
  · rw [List.mem_flatMap] at hu
    obtain ⟨y, _, hu⟩ := hu
    exact h1 y u hu
  · have hR : Row cs sz e w' base v' (ys ++ zs) := by
      unfold Row
      rw [List.length_append, List.flatMap_append]
      exact hr
    refine h v' w' hR (fun hv => ?_) ((Below.refl base w).grown hg hbase fun k hk => R.own_ge hk)
    rcases hR.2 with ⟨h3, _⟩ | ⟨g', cap, cur, h3, _⟩
    · have := (he.1 h3).1
      rw [this] at hv
      exact absurd rfl hv
    · rw [h3]; simp [Value.ownBlock]
theorem takeC {α : Type} {cs : α → List Value} {sz : Nat} {w : World} {b : Nat} {xs : List α} (A : Arr cs sz w b xs) (k : Nat) : ∀ i (h : i < (xs.take k).length) j u, (cs (xs.take k)[i])[j]? = some u → w.cell? ⟨b, 0 + i * sz + j, none⟩ = some u := fun i h j u hu => by
  rw [List.getElem_take] at hu
  rw [Nat.zero_add]
  exact A.2 i (by rw [List.length_take] at h; omega) j u hu
theorem dropC {α : Type} {cs : α → List Value} {sz : Nat} {w : World} {b : Nat} {xs : List α} (A : Arr cs sz w b xs) (k : Nat) : ∀ i (h : i < (xs.drop k).length) j u, (cs (xs.drop k)[i])[j]? = some u → w.cell? ⟨b, k * sz + i * sz + j, none⟩ = some u := fun i h j u hu => by
  rw [List.getElem_drop] at hu
  rw [← Nat.add_mul]
  exact A.2 (k + i) (by rw [List.length_drop] at h; omega) j u hu
theorem Box.uptoR {t : TypeId} {w w' : World} {g B : Nat} {cs : Array Value} (h : Box t w g cs) (hb : Below B w w') (hg : g < B) : Box t w' g cs := (hb.block g hg).trans h
end Go.Proofs.Ytcjalooaikfkbaa
