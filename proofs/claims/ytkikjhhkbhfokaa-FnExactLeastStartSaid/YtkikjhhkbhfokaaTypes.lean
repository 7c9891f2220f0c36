/- The structs of the program as plain Lean structures, and their cells. -/
import Derived.Test.YtkikjhhkbhfokaaBase
namespace Go.Proofs.Ytkikjhhkbhfokaa
set_option linter.unusedSimpArgs false
set_option linter.unusedVariables false
structure SPart where
  Length : Int
  Width : Int
  Depth : Int
  Density : Int
def SPart.cells (x : SPart) : List Value := [.int .i64 x.Length, .int .i64 x.Width, .int .i64 x.Depth, .int .i64 x.Density]
def SPart.fits (x : SPart) : Prop := -9223372036854775808 ≤ x.Length ∧ x.Length ≤ 9223372036854775807 ∧ -9223372036854775808 ≤ x.Width ∧ x.Width ≤ 9223372036854775807 ∧ -9223372036854775808 ≤ x.Depth ∧ x.Depth ≤ 9223372036854775807 ∧ -9223372036854775808 ≤ x.Density ∧ x.Density ≤ 9223372036854775807
theorem lenPart {l : List Value} (h : l.length = 4) : ∃ c0 c1 c2 c3, l = [c0, c1, c2, c3] := match l, h with | [c0, c1, c2, c3], _ => ⟨c0, c1, c2, c3, rfl⟩
theorem SPart.size (x : SPart) : x.cells.length = 4 := rfl
theorem SPart.elem {w : World} {b k : Nat} {xs : List SPart} (A : Arr SPart.cells 4 w b xs) (hk : k < xs.length) : w.cell? ⟨b, k * 4, none⟩ = some (.int .i64 xs[k].Length) ∧ w.cell? ⟨b, k * 4 + 1, none⟩ = some (.int .i64 xs[k].Width) ∧ w.cell? ⟨b, k * 4 + 2, none⟩ = some (.int .i64 xs[k].Depth) ∧ w.cell? ⟨b, k * 4 + 3, none⟩ = some (.int .i64 xs[k].Density) := ⟨A.get hk 0 _ rfl rfl, A.get hk 1 _ rfl rfl, A.get hk 2 _ rfl rfl, A.get hk 3 _ rfl rfl⟩
theorem SPart.elems {w : World} {b k : Nat} {xs : List SPart} (A : Arr SPart.cells 4 w b xs) (hk : k < xs.length) : (∀ p : Past w, p.w.cell? ⟨b, k * 4, none⟩ = some (.int .i64 xs[k].Length)) ∧ (∀ p : Past w, p.w.cell? ⟨b, k * 4 + 1, none⟩ = some (.int .i64 xs[k].Width)) ∧ (∀ p : Past w, p.w.cell? ⟨b, k * 4 + 2, none⟩ = some (.int .i64 xs[k].Depth)) ∧ (∀ p : Past w, p.w.cell? ⟨b, k * 4 + 3, none⟩ = some (.int .i64 xs[k].Density)) := ⟨Past.cell (A.get hk 0 _ rfl rfl) A.1, Past.cell (A.get hk 1 _ rfl rfl) A.1, Past.cell (A.get hk 2 _ rfl rfl) A.1, Past.cell (A.get hk 3 _ rfl rfl) A.1⟩
theorem SPart.past {w : World} {g : Nat} {x : SPart} (h : ∀ j, w.cell? ⟨g, j, none⟩ = (#[.int .i64 x.Length, .int .i64 x.Width, .int .i64 x.Depth, .int .i64 x.Density] : Array Value)[j]?) (hg : g < w.heap.size) : (∀ p : Past w, p.w.cell? ⟨g, 0, none⟩ = some (.int .i64 x.Length)) ∧ (∀ p : Past w, p.w.cell? ⟨g, 1, none⟩ = some (.int .i64 x.Width)) ∧ (∀ p : Past w, p.w.cell? ⟨g, 2, none⟩ = some (.int .i64 x.Depth)) ∧ (∀ p : Past w, p.w.cell? ⟨g, 3, none⟩ = some (.int .i64 x.Density)) := ⟨Past.cell (h 0) hg, Past.cell (h 1) hg, Past.cell (h 2) hg, Past.cell (h 3) hg⟩
theorem SPart.arg {w : World} {b o k : Nat} {xs : List SPart} (A : ArgC SPart.cells 4 w b o xs) (hk : k < xs.length) : w.cell? ⟨b, o + k * 4, none⟩ = some (.int .i64 xs[k].Length) ∧ w.cell? ⟨b, o + k * 4 + 1, none⟩ = some (.int .i64 xs[k].Width) ∧ w.cell? ⟨b, o + k * 4 + 2, none⟩ = some (.int .i64 xs[k].Depth) ∧ w.cell? ⟨b, o + k * 4 + 3, none⟩ = some (.int .i64 xs[k].Density) := ⟨A.2 k hk 0 _ rfl, A.2 k hk 1 _ rfl, A.2 k hk 2 _ rfl, A.2 k hk 3 _ rfl⟩

end Go.Proofs.Ytkikjhhkbhfokaa
