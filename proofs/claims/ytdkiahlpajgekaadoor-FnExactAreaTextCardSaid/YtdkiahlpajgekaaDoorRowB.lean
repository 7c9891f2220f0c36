/- How the arguments of a law are read. -/
import Derived.Test.YtdkiahlpajgekaaDoorRows
import Derived.Test.YtdkiahlpajgekaaDoorTypes
import Derived.ProofKit
import Derived.OpenShut
import Derived.ShutString
import Derived.ChangeOld
import Derived.Below
import Derived.Deep.Slices
import Derived.Deep.Fields
namespace Go.Proofs.YtdkiahlpajgekaaDoor
set_option linter.unusedSimpArgs false
set_option linter.unusedVariables false
open Go.ChangeShapes Go.WideShapes Go.ChangeAt Go.RowKit Go.Deep
open Go.ChangeMaps (open_string shut_string)
theorem own : ownKnob Tryd.prog.godebug = none := by kernel_rfl
theorem laidOut : laidOutB Tryd.prog = true := by kernel_rfl
theorem cell_i : Tryd.prog.cellsOf 2 = 1 := by kernel_rfl
theorem cell_s : Tryd.prog.cellsOf 9 = 1 := by kernel_rfl
theorem cell_b : Tryd.prog.cellsOf 4 = 1 := by kernel_rfl
theorem one_int {H : Type} {enc : TypeId × Value → H} {w : World} {base : Nat} {spare : Nat → Bool} {held : Bool} {n : Nat} {v : Value} {y : DataW H × List MemPlace}
    (h : DataW.trod enc Tryd.prog w base spare held n 2 [v] = some y) : ∃ m : Int, v = .int .i64 m ∧ -9223372036854775808 ≤ m ∧ m ≤ 9223372036854775807 := by
  obtain ⟨m, h1, _, h2⟩ := DataW.trod_int Tryd.underlying2 h
  simp only [List.cons.injEq, and_true] at h1
  simp [Lit.wf, IntKind.min, IntKind.max, IntKind.signed, IntKind.bits] at h2
  exact ⟨m, h1, by omega, by omega⟩
theorem one_str {H : Type} {enc : TypeId × Value → H} {w : World} {base : Nat} {spare : Nat → Bool} {held : Bool} {n : Nat} {v : Value} {y : DataW H × List MemPlace}
    (h : DataW.trod enc Tryd.prog w base spare held n 9 [v] = some y) : ∃ s : ByteArray, v = .string s ∧ s.size ≤ 9223372036854775807 := by
  obtain ⟨m, h1, _, h2⟩ := DataW.trod_string Tryd.underlying9 h
  simp only [List.cons.injEq, and_true] at h1
  unfold maxLen at h2
  exact ⟨m, h1, h2⟩
theorem one_bool {H : Type} {enc : TypeId × Value → H} {w : World} {base : Nat} {spare : Nat → Bool} {held : Bool} {n : Nat} {v : Value} {y : DataW H × List MemPlace}
    (h : DataW.trod enc Tryd.prog w base spare held n 4 [v] = some y) : ∃ b : Bool, v = .bool b := by
  obtain ⟨m, h1, _⟩ := DataW.trod_bool Tryd.underlying4 h
  simp only [List.cons.injEq, and_true] at h1
  exact ⟨m, h1⟩
theorem some_of_lt {α : Type} {l : List α} {i : Nat} (h : i < l.length) : ∃ y, l[i]? = some y := ⟨l[i], List.getElem?_eq_getElem h⟩
theorem argS_of {α : Type} [Inhabited α] {cs : α → List Value} {sz : Nat} (hsz : ∀ x, (cs x).length = sz) (hpos : 0 < sz) {w : World} {base : Nat} {a : Addr} {len : Nat} {Q : α → Prop}
    (h : ∀ i, i < len → ∃ cs', w.cells? base (a.add (i * sz)) sz = some cs' ∧ ∃ x, cs' = cs x ∧ Q x) :
    ∃ xs : List α, len = xs.length ∧ ArgS cs sz w (some a) xs ∧ ∀ i (h : i < xs.length), Q xs[i] := by
  have h1 : ∀ i, ∃ x, i < len → ∃ cs', w.cells? base (a.add (i * sz)) sz = some cs' ∧ cs' = cs x ∧ Q x := fun i => by
    by_cases hi : i < len
    · obtain ⟨cs', a1, x, a2, a3⟩ := h i hi
      exact ⟨x, fun _ => ⟨cs', a1, a2, a3⟩⟩
    · exact ⟨default, fun h => absurd h hi⟩
  obtain ⟨f, hf⟩ := Classical.axiomOfChoice h1
  have hl : ((List.range len).map f).length = len := by simp
  refine ⟨(List.range len).map f, hl.symm, fun hn => ?_, fun i hi => ?_⟩
  · obtain ⟨b, off, spot⟩ := a
    have cell : ∀ i, i < len → ∀ j v, (cs (f i))[j]? = some v → w.cell? ((Addr.add ⟨b, off, spot⟩ (i * sz)).add j) = some v := fun i hi j v hv => by
      obtain ⟨cs', a1, a2, _⟩ := hf i hi
      obtain ⟨_, b2, b3⟩ := World.cells?_some a1
      have hj : j < sz := by rw [← hsz (f i)]; exact (List.getElem?_eq_some_iff.1 hv).1
      rw [b3 j hj, a2, hv]
    have hn' : 0 < len := by omega
    obtain ⟨v0, hv0⟩ := some_of_lt (l := cs (f 0)) (i := 0) (by rw [hsz]; exact hpos)
    have c0 := cell 0 hn' 0 v0 hv0
    have hspot : spot = none := by simpa [Addr.add] using World.cell?_spot c0
    subst hspot
    have hb : b < w.heap.size := by
      rcases Nat.lt_or_ge b w.heap.size with hlt | hge
      · exact hlt
      · simp [Addr.add, World.cell?, Array.getElem?_eq_none hge] at c0
    refine ⟨b, off, rfl, hb, fun i hi j v hv => ?_⟩
    have e : ((List.range len).map f)[i] = f i := by simp
    rw [e] at hv
    have := cell i (by omega) j v hv
    rw [Go.WideShapes.add_plain, Go.WideShapes.add_plain] at this
    exact this
  · have e : ((List.range len).map f)[i] = f i := by simp
    rw [e]
    obtain ⟨_, _, _, a3⟩ := hf i (by omega)
    exact a3
set_option maxRecDepth 100000 in
theorem readInt {H : Type} {enc : TypeId × Value → H} {w : World} {base : Nat} {spare : Nat → Bool} {held : Bool} {r : Reach} {b0 : Nat} {v : Value} {d : DataW H} {p : List MemPlace}
    (hv : Value.okWide Tryd.prog w r b0 2 v) (h : DataW.Trod enc Tryd.prog w base spare held 2 v d p) : ∃ m : Int, v = .int .i64 m ∧ -9223372036854775808 ≤ m ∧ m ≤ 9223372036854775807 := by
  obtain ⟨m, e, _, _, h2⟩ := open_int Tryd.underlying2 hv h
  simp [Lit.wf, IntKind.min, IntKind.max, IntKind.signed, IntKind.bits] at h2
  exact ⟨m, e, by omega, by omega⟩
set_option maxRecDepth 100000 in
theorem readStr {H : Type} {enc : TypeId × Value → H} {w : World} {base : Nat} {spare : Nat → Bool} {held : Bool} {r : Reach} {b0 : Nat} {v : Value} {d : DataW H} {p : List MemPlace}
    (hv : Value.okWide Tryd.prog w r b0 9 v) (h : DataW.Trod enc Tryd.prog w base spare held 9 v d p) : ∃ s : ByteArray, v = .string s ∧ s.size ≤ 9223372036854775807 := by
  obtain ⟨m, e, _, _, h2⟩ := open_string Tryd.underlying9 hv h
  unfold maxLen at h2
  exact ⟨m, e, h2⟩
theorem readArea {H : Type} {enc : TypeId × Value → H} {w : World} {base : Nat} {spare : Nat → Bool} {held : Bool} {fuel : Nat} {cs : List Value} {y : DataW H × List MemPlace} (h : DataW.trod enc Tryd.prog w base spare held fuel 23 cs = some y) : ∃ x : SArea, cs = x.cells ∧ x.fits := by
  obtain ⟨ys, n, _, _, hlen, hyl, hf⟩ := DataW.trod_struct Tryd.underlying23 h
  have hc : cs.length = 3 := hlen.trans (by kernel_rfl)
  obtain ⟨c0, c1, c2, rfl⟩ := lenArea hc
  obtain ⟨y0, hy0⟩ := some_of_lt (l := ys) (i := 0) (by rw [hyl]; decide)
  have h0 : DataW.trod enc Tryd.prog w base spare held n 9 (List.take (Tryd.prog.cellsOf 9) (List.drop 0 [c0, c1, c2])) = ys[0]? := hf 0 _ rfl
  rw [hy0, cell_s] at h0
  obtain ⟨y1, hy1⟩ := some_of_lt (l := ys) (i := 1) (by rw [hyl]; decide)
  have h1 : DataW.trod enc Tryd.prog w base spare held n 2 (List.take (Tryd.prog.cellsOf 2) (List.drop 1 [c0, c1, c2])) = ys[1]? := hf 1 _ rfl
  rw [hy1, cell_i] at h1
  obtain ⟨y2, hy2⟩ := some_of_lt (l := ys) (i := 2) (by rw [hyl]; decide)
  have h2 : DataW.trod enc Tryd.prog w base spare held n 2 (List.take (Tryd.prog.cellsOf 2) (List.drop 2 [c0, c1, c2])) = ys[2]? := hf 2 _ rfl
  rw [hy2, cell_i] at h2
  obtain ⟨m0, rfl, u0⟩ := one_str (v := c0) h0
  obtain ⟨m1, rfl, l1, u1⟩ := one_int (v := c1) h1
  obtain ⟨m2, rfl, l2, u2⟩ := one_int (v := c2) h2
  exact ⟨⟨m0, m1, m2⟩, rfl, u0, l1, u1, l2, u2⟩
set_option maxRecDepth 100000 in
theorem readVArea {H : Type} {enc : TypeId × Value → H} {w : World} {base : Nat} {spare : Nat → Bool} {held : Bool} {r : Reach} {b0 : Nat} {v : Value} {d : DataW H} {p : List MemPlace} (hv : Value.okWide Tryd.prog w r b0 23 v) (h : DataW.Trod enc Tryd.prog w base spare held 23 v d p) : ∃ x : SArea, v = .agg #[.string x.Id, .int .i64 x.Chance, .int .i64 x.Minutes] ∧ x.fits := by
  obtain ⟨cs, rfl, _⟩ := okWide_struct Tryd.underlying23 hv
  obtain ⟨fuel, hf⟩ := h
  obtain ⟨x, h1, h2⟩ := readArea hf
  obtain ⟨l⟩ := cs
  exact ⟨x, by simp only [Value.cells] at h1; rw [h1]; rfl, h2⟩
end Go.Proofs.YtdkiahlpajgekaaDoor
