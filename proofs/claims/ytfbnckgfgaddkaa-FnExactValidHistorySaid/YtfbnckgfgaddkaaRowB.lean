/- How the arguments of a law are read. -/
import Derived.Test.YtfbnckgfgaddkaaRows
import Derived.Test.YtfbnckgfgaddkaaTypes
import Derived.ProofKit
import Derived.OpenShut
import Derived.ShutString
import Derived.ChangeOld
import Derived.Below
import Derived.Deep.Slices
import Derived.Deep.Fields
namespace Go.Proofs.Ytfbnckgfgaddkaa
set_option linter.unusedSimpArgs false
set_option linter.unusedVariables false
open Go.ChangeShapes Go.WideShapes Go.ChangeAt Go.RowKit Go.Deep
open Go.ChangeMaps (open_string shut_string)
theorem own : ownKnob Try.prog.godebug = none := by kernel_rfl
theorem laidOut : laidOutB Try.prog = true := by kernel_rfl
theorem cell_i : Try.prog.cellsOf 2 = 1 := by kernel_rfl
theorem cell_s : Try.prog.cellsOf 9 = 1 := by kernel_rfl
theorem cell_b : Try.prog.cellsOf 4 = 1 := by kernel_rfl
theorem one_int {H : Type} {enc : TypeId × Value → H} {w : World} {base : Nat} {spare : Nat → Bool} {held : Bool} {n : Nat} {v : Value} {y : DataW H × List MemPlace}
    (h : DataW.trod enc Try.prog w base spare held n 2 [v] = some y) : ∃ m : Int, v = .int .i64 m ∧ -9223372036854775808 ≤ m ∧ m ≤ 9223372036854775807 := by
  obtain ⟨m, h1, _, h2⟩ := DataW.trod_int Try.underlying2 h
  simp only [List.cons.injEq, and_true] at h1
  simp [Lit.wf, IntKind.min, IntKind.max, IntKind.signed, IntKind.bits] at h2
  exact ⟨m, h1, by omega, by omega⟩
theorem one_str {H : Type} {enc : TypeId × Value → H} {w : World} {base : Nat} {spare : Nat → Bool} {held : Bool} {n : Nat} {v : Value} {y : DataW H × List MemPlace}
    (h : DataW.trod enc Try.prog w base spare held n 9 [v] = some y) : ∃ s : ByteArray, v = .string s ∧ s.size ≤ 9223372036854775807 := by
  obtain ⟨m, h1, _, h2⟩ := DataW.trod_string Try.underlying9 h
  simp only [List.cons.injEq, and_true] at h1
  unfold maxLen at h2
  exact ⟨m, h1, h2⟩
theorem one_bool {H : Type} {enc : TypeId × Value → H} {w : World} {base : Nat} {spare : Nat → Bool} {held : Bool} {n : Nat} {v : Value} {y : DataW H × List MemPlace}
    (h : DataW.trod enc Try.prog w base spare held n 4 [v] = some y) : ∃ b : Bool, v = .bool b := by
  obtain ⟨m, h1, _⟩ := DataW.trod_bool Try.underlying4 h
  simp only [List.cons.injEq, and_true] at h1
  exact ⟨m, h1⟩
theorem some_of_lt {α : Type} {l : List α} {i : Nat} (h : i < l.length) : ∃ y, l[i]? = some y := ⟨l[i], List.getElem?_eq_getElem h⟩
theorem argS_of {α : Type} [Inhabited α] {cs : α → List Value} {sz : Nat} (hsz : ∀ x, (cs x).length = sz) (hpos : 0 < sz) {w : World} {base : Nat} {a : Addr} {len : Nat} {Q : α → Prop}
    (h : ∀ i, i < len → ∃ cs', w.cells? base (a.add (i * sz)) sz = some cs' ∧ ∃ x, cs' = cs x ∧ Q x) :
    ∃ xs : List α, len = xs.length ∧ ArgS cs sz w (some a) xs ∧ ∀ i (h : i < xs.length), Q xs[i] := by
  have h1 : ∀ i, ∃ x, i < len → ∃ cs', w.cells? base (a.add (i * sz)) sz = some cs' ∧ cs' = cs x ∧ Q x := fun i => by
    by_cases hi : i < len
    · obtain ⟨cs', a1, x, a2, a3⟩ := h i hi
      exact ⟨x, fun _ => ⟨cs', a1, a2, a3⟩⟩
    · exact ⟨default, fun h => absurd h hi⟩
  obtain ⟨f, hf⟩ := Classical.axiomOfChoice h1
  have hl : ((List.range len).map f).length = len := by simp
  refine ⟨(List.range len).map f, hl.symm, fun hn => ?_, fun i hi => ?_⟩
  · obtain ⟨b, off, spot⟩ := a
    have cell : ∀ i, i < len → ∀ j v, (cs (f i))[j]? = some v → w.cell? ((Addr.add ⟨b, off, spot⟩ (i * sz)).add j) = some v := fun i hi j v hv => by
      obtain ⟨cs', a1, a2, _⟩ := hf i hi
      obtain ⟨_, b2, b3⟩ := World.cells?_some a1
      have hj : j < sz := by rw [← hsz (f i)]; exact (List.getElem?_eq_some_iff.1 hv).1
      rw [b3 j hj, a2, hv]
    have hn' : 0 < len := by omega
    obtain ⟨v0, hv0⟩ := some_of_lt (l := cs (f 0)) (i := 0) (by rw [hsz]; exact hpos)
    have c0 := cell 0 hn' 0 v0 hv0
    have hspot : spot = none := by simpa [Addr.add] using World.cell?_spot c0
    subst hspot
    have hb : b < w.heap.size := by
      rcases Nat.lt_or_ge b w.heap.size with hlt | hge
      · exact hlt
      · simp [Addr.add, World.cell?, Array.getElem?_eq_none hge] at c0
    refine ⟨b, off, rfl, hb, fun i hi j v hv => ?_⟩
    have e : ((List.range len).map f)[i] = f i := by simp
    rw [e] at hv
    have := cell i (by omega) j v hv
    rw [Go.WideShapes.add_plain, Go.WideShapes.add_plain] at this
    exact this
  · have e : ((List.range len).map f)[i] = f i := by simp
    rw [e]
    obtain ⟨_, _, _, a3⟩ := hf i (by omega)
    exact a3
set_option maxRecDepth 100000 in
theorem readInt {H : Type} {enc : TypeId × Value → H} {w : World} {base : Nat} {spare : Nat → Bool} {held : Bool} {r : Reach} {b0 : Nat} {v : Value} {d : DataW H} {p : List MemPlace}
    (hv : Value.okWide Try.prog w r b0 2 v) (h : DataW.Trod enc Try.prog w base spare held 2 v d p) : ∃ m : Int, v = .int .i64 m ∧ -9223372036854775808 ≤ m ∧ m ≤ 9223372036854775807 := by
  obtain ⟨m, e, _, _, h2⟩ := open_int Try.underlying2 hv h
  simp [Lit.wf, IntKind.min, IntKind.max, IntKind.signed, IntKind.bits] at h2
  exact ⟨m, e, by omega, by omega⟩
set_option maxRecDepth 100000 in
theorem readStr {H : Type} {enc : TypeId × Value → H} {w : World} {base : Nat} {spare : Nat → Bool} {held : Bool} {r : Reach} {b0 : Nat} {v : Value} {d : DataW H} {p : List MemPlace}
    (hv : Value.okWide Try.prog w r b0 9 v) (h : DataW.Trod enc Try.prog w base spare held 9 v d p) : ∃ s : ByteArray, v = .string s ∧ s.size ≤ 9223372036854775807 := by
  obtain ⟨m, e, _, _, h2⟩ := open_string Try.underlying9 hv h
  unfold maxLen at h2
  exact ⟨m, e, h2⟩
/-- A slice of integers. -/
theorem readSInts {H : Type} {enc : TypeId × Value → H} {w : World} {base : Nat} {spare : Nat → Bool} {held : Bool} {A : Option Addr} {len cap : Nat} {d : DataW H} {p : List MemPlace}
    (h : DataW.Trod enc Try.prog w base spare held 67 (.slice A len cap) d p) : ∃ xs : List Int, len = xs.length ∧ ArgS intc 1 w A xs ∧ xs.length ≤ 9223372036854775807 ∧ True := by
  obtain ⟨fuel, hf⟩ := h
  simp only [Value.cells] at hf
  rcases open_slice Try.underlying67 hf with ⟨hcs, _⟩ | ⟨a, len', cap', m, n, D, Pl, hcs, _, hl, hm, hmm, _, hi⟩
  · simp at hcs
    obtain ⟨rfl, rfl, rfl⟩ := hcs
    exact ⟨[], rfl, fun h => absurd h (Nat.lt_irrefl 0), Nat.zero_le _, trivial⟩
  · simp at hcs
    obtain ⟨rfl, rfl, rfl⟩ := hcs
    unfold maxLen at hm
    rw [cell_i] at hi
    obtain ⟨xs, h1, h2, h3⟩ := argS_of (cs := intc) (sz := 1) (Q := fun _ => True) (fun _ => rfl) (by omega) (len := len) fun i hlt => by
      obtain ⟨cs', a1, a2⟩ := hi i (by rw [hmm]; split <;> omega)
      obtain ⟨_, b2, _⟩ := World.cells?_some a1
      obtain ⟨c0, rfl⟩ := List.length_eq_one_iff.1 b2
      obtain ⟨x, rfl, _, _⟩ := one_int a2
      exact ⟨_, a1, x, rfl, trivial⟩
    exact ⟨xs, h1, h2, by omega, trivial⟩
theorem readGroup {H : Type} {enc : TypeId × Value → H} {w : World} {base : Nat} {spare : Nat → Bool} {held : Bool} {fuel : Nat} {cs : List Value} {y : DataW H × List MemPlace} (h : DataW.trod enc Try.prog w base spare held fuel 30 cs = some y) : ∃ x : SGroup, cs = x.cells ∧ x.fits := by
  obtain ⟨ys, n, _, _, hlen, hyl, hf⟩ := DataW.trod_struct Try.underlying30 h
  have hc : cs.length = 7 := hlen.trans (by kernel_rfl)
  obtain ⟨c0, c1, c2, c3, c4, c5, c6, rfl⟩ := lenGroup hc
  obtain ⟨y0, hy0⟩ := some_of_lt (l := ys) (i := 0) (by rw [hyl]; decide)
  have h0 : DataW.trod enc Try.prog w base spare held n 9 (List.take (Try.prog.cellsOf 9) (List.drop 0 [c0, c1, c2, c3, c4, c5, c6])) = ys[0]? := hf 0 _ rfl
  rw [hy0, cell_s] at h0
  obtain ⟨y1, hy1⟩ := some_of_lt (l := ys) (i := 1) (by rw [hyl]; decide)
  have h1 : DataW.trod enc Try.prog w base spare held n 2 (List.take (Try.prog.cellsOf 2) (List.drop 1 [c0, c1, c2, c3, c4, c5, c6])) = ys[1]? := hf 1 _ rfl
  rw [hy1, cell_i] at h1
  obtain ⟨y2, hy2⟩ := some_of_lt (l := ys) (i := 2) (by rw [hyl]; decide)
  have h2 : DataW.trod enc Try.prog w base spare held n 2 (List.take (Try.prog.cellsOf 2) (List.drop 2 [c0, c1, c2, c3, c4, c5, c6])) = ys[2]? := hf 2 _ rfl
  rw [hy2, cell_i] at h2
  obtain ⟨y3, hy3⟩ := some_of_lt (l := ys) (i := 3) (by rw [hyl]; decide)
  have h3 : DataW.trod enc Try.prog w base spare held n 2 (List.take (Try.prog.cellsOf 2) (List.drop 3 [c0, c1, c2, c3, c4, c5, c6])) = ys[3]? := hf 3 _ rfl
  rw [hy3, cell_i] at h3
  obtain ⟨y4, hy4⟩ := some_of_lt (l := ys) (i := 4) (by rw [hyl]; decide)
  have h4 : DataW.trod enc Try.prog w base spare held n 2 (List.take (Try.prog.cellsOf 2) (List.drop 4 [c0, c1, c2, c3, c4, c5, c6])) = ys[4]? := hf 4 _ rfl
  rw [hy4, cell_i] at h4
  obtain ⟨y5, hy5⟩ := some_of_lt (l := ys) (i := 5) (by rw [hyl]; decide)
  have h5 : DataW.trod enc Try.prog w base spare held n 2 (List.take (Try.prog.cellsOf 2) (List.drop 5 [c0, c1, c2, c3, c4, c5, c6])) = ys[5]? := hf 5 _ rfl
  rw [hy5, cell_i] at h5
  obtain ⟨y6, hy6⟩ := some_of_lt (l := ys) (i := 6) (by rw [hyl]; decide)
  have h6 : DataW.trod enc Try.prog w base spare held n 2 (List.take (Try.prog.cellsOf 2) (List.drop 6 [c0, c1, c2, c3, c4, c5, c6])) = ys[6]? := hf 6 _ rfl
  rw [hy6, cell_i] at h6
  obtain ⟨m0, rfl, u0⟩ := one_str (v := c0) h0
  obtain ⟨m1, rfl, l1, u1⟩ := one_int (v := c1) h1
  obtain ⟨m2, rfl, l2, u2⟩ := one_int (v := c2) h2
  obtain ⟨m3, rfl, l3, u3⟩ := one_int (v := c3) h3
  obtain ⟨m4, rfl, l4, u4⟩ := one_int (v := c4) h4
  obtain ⟨m5, rfl, l5, u5⟩ := one_int (v := c5) h5
  obtain ⟨m6, rfl, l6, u6⟩ := one_int (v := c6) h6
  exact ⟨⟨m0, m1, m2, m3, m4, m5, m6⟩, rfl, u0, l1, u1, l2, u2, l3, u3, l4, u4, l5, u5, l6, u6⟩
set_option maxRecDepth 100000 in
theorem readVGroup {H : Type} {enc : TypeId × Value → H} {w : World} {base : Nat} {spare : Nat → Bool} {held : Bool} {r : Reach} {b0 : Nat} {v : Value} {d : DataW H} {p : List MemPlace} (hv : Value.okWide Try.prog w r b0 30 v) (h : DataW.Trod enc Try.prog w base spare held 30 v d p) : ∃ x : SGroup, v = .agg #[.string x.Id, .int .i64 x.People, .int .i64 x.Guides, .int .i64 x.Beacons, .int .i64 x.Shovels, .int .i64 x.Probes, .int .i64 x.Skill] ∧ x.fits := by
  obtain ⟨cs, rfl, _⟩ := okWide_struct Try.underlying30 hv
  obtain ⟨fuel, hf⟩ := h
  obtain ⟨x, h1, h2⟩ := readGroup hf
  obtain ⟨l⟩ := cs
  exact ⟨x, by simp only [Value.cells] at h1; rw [h1]; rfl, h2⟩
theorem readSetting {H : Type} {enc : TypeId × Value → H} {w : World} {base : Nat} {spare : Nat → Bool} {held : Bool} {fuel : Nat} {cs : List Value} {y : DataW H × List MemPlace} (h : DataW.trod enc Try.prog w base spare held fuel 69 cs = some y) : ∃ x : SSetting, cs = x.cells ∧ x.fits := by
  obtain ⟨ys, n, _, _, hlen, hyl, hf⟩ := DataW.trod_struct Try.underlying69 h
  have hc : cs.length = 2 := hlen.trans (by kernel_rfl)
  obtain ⟨c0, c1, rfl⟩ := lenSetting hc
  obtain ⟨y0, hy0⟩ := some_of_lt (l := ys) (i := 0) (by rw [hyl]; decide)
  have h0 : DataW.trod enc Try.prog w base spare held n 9 (List.take (Try.prog.cellsOf 9) (List.drop 0 [c0, c1])) = ys[0]? := hf 0 _ rfl
  rw [hy0, cell_s] at h0
  obtain ⟨y1, hy1⟩ := some_of_lt (l := ys) (i := 1) (by rw [hyl]; decide)
  have h1 : DataW.trod enc Try.prog w base spare held n 2 (List.take (Try.prog.cellsOf 2) (List.drop 1 [c0, c1])) = ys[1]? := hf 1 _ rfl
  rw [hy1, cell_i] at h1
  obtain ⟨m0, rfl, u0⟩ := one_str (v := c0) h0
  obtain ⟨m1, rfl, l1, u1⟩ := one_int (v := c1) h1
  exact ⟨⟨m0, m1⟩, rfl, u0, l1, u1⟩
set_option maxRecDepth 100000 in
theorem readVSetting {H : Type} {enc : TypeId × Value → H} {w : World} {base : Nat} {spare : Nat → Bool} {held : Bool} {r : Reach} {b0 : Nat} {v : Value} {d : DataW H} {p : List MemPlace} (hv : Value.okWide Try.prog w r b0 69 v) (h : DataW.Trod enc Try.prog w base spare held 69 v d p) : ∃ x : SSetting, v = .agg #[.string x.Name, .int .i64 x.Val] ∧ x.fits := by
  obtain ⟨cs, rfl, _⟩ := okWide_struct Try.underlying69 hv
  obtain ⟨fuel, hf⟩ := h
  obtain ⟨x, h1, h2⟩ := readSetting hf
  obtain ⟨l⟩ := cs
  exact ⟨x, by simp only [Value.cells] at h1; rw [h1]; rfl, h2⟩
instance : Inhabited SSetting := ⟨⟨ByteArray.empty, 0⟩⟩
theorem readSSetting {H : Type} {enc : TypeId × Value → H} {w : World} {base : Nat} {spare : Nat → Bool} {held : Bool} {A : Option Addr} {len cap : Nat} {d : DataW H} {p : List MemPlace} (h : DataW.Trod enc Try.prog w base spare held 41 (.slice A len cap) d p) : ∃ xs : List SSetting, len = xs.length ∧ ArgS SSetting.cells 2 w A xs ∧ xs.length ≤ 9223372036854775807 ∧ ∀ i (h : i < xs.length), xs[i].fits := by
  obtain ⟨fuel, hf⟩ := h
  simp only [Value.cells] at hf
  rcases open_slice Try.underlying41 hf with ⟨hcs, _⟩ | ⟨a, len', cap', m, n, D, Pl, hcs, _, hl, hm, hmm, _, hi⟩
  · simp at hcs
    obtain ⟨rfl, rfl, rfl⟩ := hcs
    exact ⟨[], rfl, fun h => absurd h (Nat.lt_irrefl 0), Nat.zero_le _, fun i hi => absurd hi (Nat.not_lt_zero i)⟩
  · simp at hcs
    obtain ⟨rfl, rfl, rfl⟩ := hcs
    unfold maxLen at hm
    have hC : Try.prog.cellsOf 69 = 2 := by kernel_rfl
    rw [hC] at hi
    obtain ⟨xs, h1, h2, h3⟩ := argS_of (cs := SSetting.cells) (sz := 2) (Q := SSetting.fits) (fun _ => rfl) (by omega) (len := len) fun i hlt => by
      obtain ⟨cs', a1, a2⟩ := hi i (by rw [hmm]; split <;> omega)
      exact ⟨cs', a1, readSetting a2⟩
    exact ⟨xs, h1, h2, by omega, h3⟩
end Go.Proofs.Ytfbnckgfgaddkaa
