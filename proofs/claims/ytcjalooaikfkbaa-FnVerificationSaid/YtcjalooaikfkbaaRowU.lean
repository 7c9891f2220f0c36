/- How an argument of bytes is read. -/
import Derived.Test.YtcjalooaikfkbaaRowB
namespace Go.Proofs.Ytcjalooaikfkbaa
set_option linter.unusedSimpArgs false
set_option linter.unusedVariables false
open Go.ChangeShapes Go.WideShapes Go.ChangeAt Go.RowKit Go.Deep
theorem cell_u : Try.prog.cellsOf 5 = 1 := by kernel_rfl
theorem one_byte {H : Type} {enc : TypeId × Value → H} {w : World} {base : Nat} {spare : Nat → Bool} {held : Bool} {n : Nat} {v : Value} {y : DataW H × List MemPlace}
    (h : DataW.trod enc Try.prog w base spare held n 5 [v] = some y) : ∃ m : Int, v = .int .u8 m ∧ 0 ≤ m ∧ m ≤ 255 := by
  obtain ⟨m, h1, _, h2⟩ := DataW.trod_int Try.underlying5 h
  simp only [List.cons.injEq, and_true] at h1
  simp [Lit.wf, IntKind.min, IntKind.max, IntKind.signed, IntKind.bits] at h2
  exact ⟨m, h1, by omega, by omega⟩
def bytec (x : Int) : List Value := [.int .u8 x]
theorem readSBytes {H : Type} {enc : TypeId × Value → H} {w : World} {base : Nat} {spare : Nat → Bool} {held : Bool} {A : Option Addr} {len cap : Nat} {d : DataW H} {p : List MemPlace}
    (h : DataW.Trod enc Try.prog w base spare held 22 (.slice A len cap) d p) : ∃ xs : List Int, len = xs.length ∧
      (∀ i, i < xs.length → ∃ b o v, A = some (⟨b, o, none⟩ : Addr) ∧ b < w.heap.size ∧ w.cell? ⟨b, o + i, none⟩ = some (.int .u8 v) ∧ 0 ≤ v ∧ v ≤ 255) ∧ (xs.length ≤ cap ∧ cap ≤ 9223372036854775807) ∧ True := by
  obtain ⟨fuel, hf⟩ := h
  simp only [Value.cells] at hf
  rcases open_slice Try.underlying22 hf with ⟨hcs, _⟩ | ⟨a, len', cap', m, n, D, Pl, hcs, _, hl, hm, hmm, _, hi⟩
  · simp at hcs
    obtain ⟨rfl, rfl, rfl⟩ := hcs
    exact ⟨[], rfl, fun i h => absurd h (Nat.not_lt_zero i), ⟨Nat.zero_le _, by omega⟩, trivial⟩
  · simp at hcs
    obtain ⟨rfl, rfl, rfl⟩ := hcs
    unfold maxLen at hm
    rw [cell_u] at hi
    obtain ⟨xs, h1, h2, h3⟩ := argS_of (cs := bytec) (sz := 1) (Q := fun m => 0 ≤ m ∧ m ≤ 255) (fun _ => rfl) (by omega) (len := len) fun i hlt => by
      obtain ⟨cs', a1, a2⟩ := hi i (by rw [hmm]; split <;> omega)
      obtain ⟨_, b2, _⟩ := World.cells?_some a1
      obtain ⟨c0, rfl⟩ := List.length_eq_one_iff.1 b2
      obtain ⟨x, rfl, g1, g2⟩ := one_byte a2
      exact ⟨_, a1, x, rfl, g1, g2⟩
    refine ⟨xs, h1, fun i hlt => ?_, ⟨by omega, by omega⟩, trivial⟩
    obtain ⟨b, o, e, hb, hc⟩ := h2 (by omega)
    exact ⟨b, o, xs[i], e, hb, by simpa using hc i hlt 0 _ rfl, h3 i hlt⟩
end Go.Proofs.Ytcjalooaikfkbaa
