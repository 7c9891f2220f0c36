/- How an argument of versions is read: each version's state lies in a row of its own. -/
import Derived.Test.YtfbnckgfgaddkaaRowB
import Derived.Test.YtfbnckgfgaddkaaLTVersion
namespace Go.Proofs.Ytfbnckgfgaddkaa
set_option linter.unusedSimpArgs false
set_option linter.unusedVariables false
open Go.ChangeShapes Go.WideShapes Go.ChangeAt Go.RowKit Go.Deep
theorem cell_ls : Try.prog.cellsOf 41 = 1 := by kernel_rfl
theorem len4V {l : List Value} (h : l.length = 4) : ∃ c0 c1 c2 c3, l = [c0, c1, c2, c3] := match l, h with | [c0, c1, c2, c3], _ => ⟨c0, c1, c2, c3, rfl⟩
def VRead (w : World) (x : SVer) (ss : List SSetting) : Prop := ss.length = x.n ∧ ArgS SSetting.cells 2 w x.A ss ∧ x.Memo.size ≤ 9223372036854775807 ∧ ss.length ≤ 9223372036854775807 ∧ ∀ j (h : j < ss.length), ss[j].Name.size ≤ 9223372036854775807
theorem readVersion {H : Type} {enc : TypeId × Value → H} {w : World} {base : Nat} {spare : Nat → Bool} {held : Bool} {fuel : Nat} {cs : List Value} {y : DataW H × List MemPlace} (h : DataW.trod enc Try.prog w base spare held fuel 43 cs = some y) : ∃ x : SVer, cs = x.cells ∧ ∃ ss, VRead w x ss := by
  obtain ⟨ys, n, _, _, hlen, hyl, hf⟩ := DataW.trod_struct Try.underlying43 h
  have hc : cs.length = 4 := hlen.trans (by kernel_rfl)
  obtain ⟨c0, c1, c2, c3, rfl⟩ := len4V hc
  obtain ⟨y0, hy0⟩ := some_of_lt (l := ys) (i := 0) (by rw [hyl]; decide)
  have h0 : DataW.trod enc Try.prog w base spare held n 2 (List.take (Try.prog.cellsOf 2) (List.drop 0 [c0, c1, c2, c3])) = ys[0]? := hf 0 _ rfl
  rw [hy0, cell_i] at h0
  obtain ⟨y1, hy1⟩ := some_of_lt (l := ys) (i := 1) (by rw [hyl]; decide)
  have h1 : DataW.trod enc Try.prog w base spare held n 2 (List.take (Try.prog.cellsOf 2) (List.drop 1 [c0, c1, c2, c3])) = ys[1]? := hf 1 _ rfl
  rw [hy1, cell_i] at h1
  obtain ⟨y2, hy2⟩ := some_of_lt (l := ys) (i := 2) (by rw [hyl]; decide)
  have h2 : DataW.trod enc Try.prog w base spare held n 9 (List.take (Try.prog.cellsOf 9) (List.drop 2 [c0, c1, c2, c3])) = ys[2]? := hf 2 _ rfl
  rw [hy2, cell_s] at h2
  obtain ⟨y3, hy3⟩ := some_of_lt (l := ys) (i := 3) (by rw [hyl]; decide)
  have h3 : DataW.trod enc Try.prog w base spare held n 41 (List.take (Try.prog.cellsOf 41) (List.drop 3 [c0, c1, c2, c3])) = ys[3]? := hf 3 _ rfl
  rw [hy3, cell_ls] at h3
  obtain ⟨m0, rfl, _, _⟩ := one_int (v := c0) h0
  obtain ⟨m1, rfl, _, _⟩ := one_int (v := c1) h1
  obtain ⟨m2, rfl, u2⟩ := one_str (v := c2) h2
  have h3' : DataW.trod enc Try.prog w base spare held n 41 [c3] = some y3 := h3
  obtain ⟨A, len, cap, rfl⟩ : ∃ A len cap, c3 = .slice A len cap := by
    rcases open_slice Try.underlying41 h3' with ⟨hcs, _⟩ | ⟨a, len', cap', m, n, D, Pl, hcs, _⟩
    · simp at hcs; exact ⟨_, _, _, hcs⟩
    · simp at hcs; exact ⟨_, _, _, hcs⟩
  obtain ⟨ss, e1, e2, e3, e4⟩ := readSSetting (A := A) (len := len) (cap := cap) (d := y3.1) (p := y3.2) ⟨n, h3'⟩
  exact ⟨⟨m0, m1, m2, A, len, cap⟩, rfl, ss, e1.symm, e2, u2, e3, fun j hj => SSetting.sizes (e4 j hj)⟩
instance : Inhabited SVer := ⟨⟨0, 0, ByteArray.empty, none, 0, 0⟩⟩
theorem readSVersion {H : Type} {enc : TypeId × Value → H} {w : World} {base : Nat} {spare : Nat → Bool} {held : Bool} {A : Option Addr} {len cap : Nat} {d : DataW H} {p : List MemPlace} (h : DataW.Trod enc Try.prog w base spare held 22 (.slice A len cap) d p) : ∃ xs : List SVer, len = xs.length ∧ ArgS SVer.cells 4 w A xs ∧ xs.length ≤ 9223372036854775807 ∧ ∀ i (h : i < xs.length), ∃ ss, VRead w xs[i] ss := by
  obtain ⟨fuel, hf⟩ := h
  simp only [Value.cells] at hf
  rcases open_slice Try.underlying22 hf with ⟨hcs, _⟩ | ⟨a, len', cap', m, n, D, Pl, hcs, _, hl, hm, hmm, _, hi⟩
  · simp at hcs
    obtain ⟨rfl, rfl, rfl⟩ := hcs
    exact ⟨[], rfl, fun h => absurd h (Nat.lt_irrefl 0), Nat.zero_le _, fun i hi => absurd hi (Nat.not_lt_zero i)⟩
  · simp at hcs
    obtain ⟨rfl, rfl, rfl⟩ := hcs
    unfold maxLen at hm
    have hC : Try.prog.cellsOf 43 = 4 := by kernel_rfl
    rw [hC] at hi
    obtain ⟨xs, h1, h2, h3⟩ := argS_of (cs := SVer.cells) (sz := 4) (Q := fun x => ∃ ss, VRead w x ss) (fun _ => rfl) (by omega) (len := len) fun i hlt => by
      obtain ⟨cs', a1, a2⟩ := hi i (by rw [hmm]; split <;> omega)
      exact ⟨cs', a1, readVersion a2⟩
    exact ⟨xs, h1, h2, by omega, h3⟩
end Go.Proofs.Ytfbnckgfgaddkaa
