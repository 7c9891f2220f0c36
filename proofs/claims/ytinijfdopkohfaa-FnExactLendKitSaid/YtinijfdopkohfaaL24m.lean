/- Chapter 24: a row of groups is copied, and fields of it are set: laws, and what lending gives (plain). -/
import Derived.Test.YtinijfdopkohfaaL24k
import Derived.Test.YtinijfdopkohfaaApp
import Derived.Lib.BufferMore
namespace Go.Proofs.Ytinijfdopkohfaa
set_option linter.unusedSimpArgs false
set_option linter.unusedVariables false
open Go.RowKit
set_option maxHeartbeats 400000
set_option maxRecDepth 100000
theorem flat_inv {α : Type} {cs : α → List Value} {sz : Nat} (hsz : ∀ x, (cs x).length = sz) (hp : 0 < sz) {ys : List α} {q : Nat} {u : Value} (h : (ys.flatMap cs)[q]? = some u) : ∃ hi : q / sz < ys.length, (cs ys[q / sz])[q % sz]? = some u := by
  have hlt : q < ys.length * sz := by
    have := (List.getElem?_eq_some_iff.1 h).1
    rwa [flat_len hsz] at this
  have hi : q / sz < ys.length := (Nat.div_lt_iff_lt_mul hp).2 hlt
  have hr : q % sz < (cs ys[q / sz]).length := by rw [hsz]; exact Nat.mod_lt _ hp
  obtain ⟨u', hu'⟩ : ∃ u', (cs ys[q / sz])[q % sz]? = some u' := ⟨_, List.getElem?_eq_getElem hr⟩
  have h2 := flat_at hsz ys (q / sz) hi (q % sz) u' hu'
  rw [show q / sz * sz + q % sz = q by rw [Nat.mul_comm]; exact Nat.div_add_mod q sz, h] at h2
  injection h2 with h2
  exact ⟨hi, by rw [hu', h2]⟩
theorem flat_set {α : Type} {cs : α → List Value} {sz : Nat} (hsz : ∀ x, (cs x).length = sz) (hp : 0 < sz) {ys : List α} {i j : Nat} {y : α} {u : Value} (hi : i < ys.length) (hj : j < sz) (hy : cs y = (cs ys[i]).set j u) : (ys.flatMap cs).set (i * sz + j) u = (ys.set i y).flatMap cs := by
  have hb : i * sz + j < ys.length * sz := by
    have := Nat.mul_le_mul_right sz (show i + 1 ≤ ys.length by omega)
    rw [Nat.succ_mul] at this; omega
  apply List.ext_getElem?
  intro q
  by_cases hq : q < ys.length * sz
  · have hiq : q / sz < ys.length := (Nat.div_lt_iff_lt_mul hp).2 hq
    have hrq : q % sz < sz := Nat.mod_lt _ hp
    have eq1 : q / sz * sz + q % sz = q := by rw [Nat.mul_comm]; exact Nat.div_add_mod q sz
    have hsl : q / sz < (ys.set i y).length := by rw [List.length_set]; exact hiq
    obtain ⟨u', hu'⟩ : ∃ u', (cs ((ys.set i y)[q / sz]'hsl))[q % sz]? = some u' := ⟨_, List.getElem?_eq_getElem (by rw [hsz]; exact hrq)⟩
    have h2 := flat_at hsz (ys.set i y) (q / sz) hsl (q % sz) u' hu'
    rw [eq1] at h2
    rw [h2]
    by_cases e : q = i * sz + j
    · have e1 : q / sz = i := by rw [e, Nat.mul_comm, Nat.mul_add_div hp, Nat.div_eq_of_lt hj, Nat.add_zero]
      have e2 : q % sz = j := by rw [e, Nat.mul_comm, Nat.mul_add_mod, Nat.mod_eq_of_lt hj]
      have hs1 : (ys.set i y)[q / sz] = y := by simp only [e1]; simp
      rw [hs1, hy, e2, List.getElem?_set_self (by rw [hsz]; exact hj)] at hu'
      rw [e, List.getElem?_set_self (by rw [flat_len hsz]; exact hb), ← hu']
    · rw [List.getElem?_set_ne (fun h => e h.symm)]
      obtain ⟨u0, hu0⟩ : ∃ u0, (cs (ys[q / sz]'hiq))[q % sz]? = some u0 := ⟨_, List.getElem?_eq_getElem (by rw [hsz]; exact hrq)⟩
      have h3 := flat_at hsz ys (q / sz) hiq (q % sz) u0 hu0
      rw [eq1] at h3
      rw [h3, ← hu0, ← hu']
      by_cases ei : q / sz = i
      · have hne : q % sz ≠ j := fun h => e (by rw [← eq1, ei, h])
        have hs1 : (ys.set i y)[q / sz] = y := by simp only [ei]; simp
        rw [hs1, hy]
        simp only [ei]
        rw [List.getElem?_set_ne (fun h => hne h.symm)]
      · have hs1 : (ys.set i y)[q / sz] = ys[q / sz] := List.getElem_set_ne (fun h => ei h.symm) _
        rw [hs1]
  · rw [List.getElem?_eq_none (by rw [List.length_set, flat_len hsz]; omega), List.getElem?_eq_none (by rw [flat_len hsz, List.length_set]; omega)]
/-- A field of an element is set. -/
theorem Row.setF {α : Type} {cs : α → List Value} {sz : Nat} {t : TypeId} {w : World} {base g n c : Nat} {ys : List α} (hsz : ∀ x, (cs x).length = sz) (hp : 0 < sz) (R : Row cs sz t w base (.slice (some ⟨g, 0, none⟩) n c) ys) {i j : Nat} {y : α} {u : Value} (hi : i < ys.length) (hj : j < sz) (hy : cs y = (cs ys[i]).set j u) :
    Row cs sz t (w.setCell ⟨g, i * sz + j, none⟩ u) base (.slice (some ⟨g, 0, none⟩) n c) (ys.set i y) := by
  rcases R.2 with ⟨h3, _⟩ | ⟨g', cap, cur, h3, h5, h6, h7, h8, h9, h10⟩
  · cases h3
  · injection h3 with e1 e2 e3
    injection e1 with e1
    injection e1 with e1 _ _
    subst e1
    subst e2
    subst e3
    refine ⟨by rw [flat_len hsz], Or.inr ⟨g, c, _, by rw [List.length_set], h5, heap_set h6 u, by rw [List.length_set]; exact h7, h8, by simpa using h9, ?_⟩⟩
    rw [List.length_set, ← flat_set hsz hp hi hj hy, ← h10]
    simp [List.take_set]
theorem Row.free {α : Type} {cs : α → List Value} {sz : Nat} {t : TypeId} {w : World} {base g n c : Nat} {ys : List α} (R : Row cs sz t w base (.slice (some ⟨g, 0, none⟩) n c) ys) (q : Nat) : w.frozen? ⟨g, q, none⟩ = false := by
  rcases R.2 with ⟨h3, _⟩ | ⟨g', cap, cur, h3, h5, h6, _⟩
  · cases h3
  · injection h3 with e1 e2 e3
    injection e1 with e1
    injection e1 with e1 _ _
    subst e1
    exact Box.free (t := t) (cs := cur) h6 q
theorem Row.at0 {α : Type} {cs : α → List Value} {sz : Nat} {t : TypeId} {w : World} {base g n c : Nat} {ys : List α} (hsz : ∀ x, (cs x).length = sz) (R : Row cs sz t w base (.slice (some ⟨g, 0, none⟩) n c) ys) {i : Nat} (hi : i < ys.length) {j : Nat} {v : Value} (hv : (cs ys[i])[j]? = some v) : w.cell? ⟨g, i * sz + j, none⟩ = some v := by
  obtain ⟨b, o, hA, hc⟩ := R.argS hsz (by omega)
  injection hA with hA
  injection hA with h1 h2 _
  subst h1
  subst h2
  have := hc.2 i hi j v hv
  rwa [Nat.zero_add] at this
/-- append(v, xs...) for an empty row of its own. -/
theorem wpList_appAll {P : Program} {ops : Array Oper} {rest : List Oper} {o : Oper} {a : Act} {Q : Exit → Act → World → Prop} {w : World} (hgd : o.guard = none) (s x : Operand) (t : TypeId)
    (ho : o.op = .call { callee := .builtin .append, args := #[s, x], argTypes := #[t, t] }) (base : Nat) (e : TypeId) (ht : P.underlying t = some (.slice e))
    (hi : (P.info? e).map (fun i => (i.zero, i.size, i.bytes)) = some (some (.agg #[.string ⟨#[]⟩, .int .i64 0, .int .i64 0, .int .i64 0, .int .i64 0, .int .i64 0, .int .i64 0]), 7, 64))
    (v : Value) (xs : List SGroup) (hs : a.eval s = v) (R : Row SGroup.cells 7 e w base v []) (g c : Nat) (hx : a.eval x = .slice (some ⟨g, 0, none⟩) xs.length c) (A : Arr SGroup.cells 7 w g xs) (hn : xs.length ≤ 1048577) (hbase : base ≤ w.heap.size)
    (h : ∀ v' w', Row SGroup.cells 7 e w' base v' xs → Below base w w' → wpList P ops Q rest (a.put o.dst v') w') : wpList P ops Q (o :: rest) a w := by
  obtain ⟨i, h1i, h2i, h3i, h4i⟩ := info_parts hi
  refine wpList_append_own w hgd s x t ho base e i _ 7 64 ht h1i h2i h3i h4i rfl (by omega) v 0 [] hs R ⟨g, 0, none⟩ xs.length c (xs.flatMap SGroup.cells) hx (flat_len (cs := SGroup.cells) (sz := 7) (fun _ => rfl) xs) (fun j u hu => ?_) (fun u hu => ?_) (by unfold maxLen; omega) (by omega) hbase fun v' w' hr hg _ => ?_
  · rw [Go.WideShapes.add_plain, Nat.zero_add]
    obtain ⟨hi2, hc⟩ := flat_inv (cs := SGroup.cells) (sz := 7) (fun _ => rfl) (by omega) hu
    have := A.2 (j / 7) hi2 (j % 7) u hc
    rwa [show j / 7 * 7 + j % 7 = j by omega] at this
  · rw [List.mem_flatMap] at hu
    obtain ⟨y, _, hu⟩ := hu
    simp only [SGroup.cells, List.mem_cons, List.not_mem_nil, or_false] at hu
    rcases hu with rfl | rfl | rfl | rfl | rfl | rfl | rfl <;> rfl
  · refine h v' w' ?_ ?_
    · unfold Row
      simpa using hr
    · exact (Below.refl base w).grown hg hbase fun k hk => R.own_ge hk
def lentV (has people other heads : Int) : Int := max 0 (min (has - people) (heads - other))
def giveB (x : SGroup) (n : Int) : SGroup := ⟨x.Id, x.People, x.Guides, x.Beacons + n, x.Shovels, x.Probes, x.Skill⟩
def giveS (x : SGroup) (n : Int) : SGroup := ⟨x.Id, x.People, x.Guides, x.Beacons, x.Shovels + n, x.Probes, x.Skill⟩
def giveP (x : SGroup) (n : Int) : SGroup := ⟨x.Id, x.People, x.Guides, x.Beacons, x.Shovels, x.Probes + n, x.Skill⟩
def lkRes (xs : List SGroup) (f t : Int) : List SGroup × Int :=
  if vlGroup xs then (if inr 0 ((xs.length : Int) - 1) f && inr 0 ((xs.length : Int) - 1) t && !(f == t) then
    (match xs[f.toNat]?, xs[t.toNat]? with
      | some a, some b => ((xs.set f.toNat (giveP (giveS (giveB a (-(lentV a.Beacons a.People b.Beacons b.People))) (-(lentV a.Shovels a.People b.Shovels b.People))) (-(lentV a.Probes a.People b.Probes b.People)))).set t.toNat (giveP (giveS (giveB b (lentV a.Beacons a.People b.Beacons b.People)) (lentV a.Shovels a.People b.Shovels b.People)) (lentV a.Probes a.People b.Probes b.People)), 0)
      | _, _ => ([], 2)) else ([], 2)) else ([], 1)
theorem lkRes_1 {xs : List SGroup} {f t : Int} (h : vlGroup xs = false) : lkRes xs f t = ([], 1) := by rw [lkRes, if_neg (by rw [h]; simp)]
theorem lkRes_2 {xs : List SGroup} {f t : Int} (h : vlGroup xs = true) (h2 : (inr 0 ((xs.length : Int) - 1) f && inr 0 ((xs.length : Int) - 1) t && !(f == t)) = false) : lkRes xs f t = ([], 2) := by rw [lkRes, if_pos h, if_neg (by rw [h2]; simp)]
theorem lkRes_0 {xs : List SGroup} {f t : Nat} (h : vlGroup xs = true) (hf : f < xs.length) (ht : t < xs.length) (hne : f ≠ t) {n1 n2 n3 : Int} (h1 : lentV xs[f].Beacons xs[f].People xs[t].Beacons xs[t].People = n1) (h2 : lentV xs[f].Shovels xs[f].People xs[t].Shovels xs[t].People = n2) (h3 : lentV xs[f].Probes xs[f].People xs[t].Probes xs[t].People = n3) :
    lkRes xs (f : Int) (t : Int) = ((xs.set f (giveP (giveS (giveB xs[f] (-n1)) (-n2)) (-n3))).set t (giveP (giveS (giveB xs[t] n1) n2) n3), 0) := by
  have e1 : (inr 0 ((xs.length : Int) - 1) (f : Int) && inr 0 ((xs.length : Int) - 1) (t : Int) && !((f : Int) == (t : Int))) = true := by
    have : ¬ (f : Int) = (t : Int) := by omega
    simp [inr, this]; omega
  rw [lkRes, if_pos h, if_pos e1]
  simp only [Int.toNat_natCast, List.getElem?_eq_getElem hf, List.getElem?_eq_getElem ht, h1, h2, h3]
theorem lkRes_len (xs : List SGroup) (f t : Int) : (lkRes xs f t).1.length ≤ xs.length := by
  unfold lkRes
  split
  · split
    · split
      · simp
      · simp
    · simp
  · simp
theorem cloneG_any (xs : List SGroup) (b c : Nat) (w : World) (A : Arr SGroup.cells 7 w b xs) (hn : xs.length ≤ 1048576) :
    Calls Try.prog 61 #[.slice (some ⟨b, 0, none⟩) xs.length c] w fun e w' => (∃ v, e = .returned v ∧ Row SGroup.cells 7 35 w' w.heap.size v xs) ∧ Below w.heap.size w w' := by
  have HA := Lib.hid A
  clear A
  have HRE := Lib.hid (Row.empty (cs := SGroup.cells) (sz := 7) (t := 35) (w0 := w) (B := w.heap.size) (Nat.le_refl _))
  have hnil : ∀ W, (binOp .eql 26 (.slice (some ⟨b, 0, none⟩) xs.length c) (.slice none 0 0)).run Try.prog W = .ok (.bool false) W := fun W => Lib.run_eql_slice_some_nil W _ _ _ Try.underlying26
  go_enter Try.func61, Try.ntmps61
  go_wp2_with (at_builtin; (refine wpList_appAll rfl _ _ 26 rfl w.heap.size 35 Try.underlying26 (by kernel_rfl) (.slice (some ⟨w.heap.size, 0, none⟩) 0 0) xs rfl HRE.out b c rfl (HA.out.below (Bel.alloc (Below.refl _ _) _)) (by omega) (by simp) ?_); intro v' w3 hr3 hb4)
  go_ret
  exact ⟨⟨_, rfl, hr3⟩, (Bel.alloc (Below.refl _ _) _).trans hb4⟩
end Go.Proofs.Ytinijfdopkohfaa
