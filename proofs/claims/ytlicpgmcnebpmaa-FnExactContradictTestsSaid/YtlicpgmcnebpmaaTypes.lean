/- The structs of the program as plain Lean structures, and their cells. -/
import Derived.Test.YtlicpgmcnebpmaaBase
namespace Go.Proofs.Ytlicpgmcnebpmaa
set_option linter.unusedSimpArgs false
set_option linter.unusedVariables false
structure STest where
  Kind : Int
  Score : Int
  Quality : Int
  Depth : Int
  Hour : Int
def STest.cells (x : STest) : List Value := [.int .i64 x.Kind, .int .i64 x.Score, .int .i64 x.Quality, .int .i64 x.Depth, .int .i64 x.Hour]
def STest.fits (x : STest) : Prop := -9223372036854775808 ≤ x.Kind ∧ x.Kind ≤ 9223372036854775807 ∧ -9223372036854775808 ≤ x.Score ∧ x.Score ≤ 9223372036854775807 ∧ -9223372036854775808 ≤ x.Quality ∧ x.Quality ≤ 9223372036854775807 ∧ -9223372036854775808 ≤ x.Depth ∧ x.Depth ≤ 9223372036854775807 ∧ -9223372036854775808 ≤ x.Hour ∧ x.Hour ≤ 9223372036854775807
theorem lenTest {l : List Value} (h : l.length = 5) : ∃ c0 c1 c2 c3 c4, l = [c0, c1, c2, c3, c4] := match l, h with | [c0, c1, c2, c3, c4], _ => ⟨c0, c1, c2, c3, c4, rfl⟩
theorem STest.size (x : STest) : x.cells.length = 5 := rfl
theorem STest.elem {w : World} {b k : Nat} {xs : List STest} (A : Arr STest.cells 5 w b xs) (hk : k < xs.length) : w.cell? ⟨b, k * 5, none⟩ = some (.int .i64 xs[k].Kind) ∧ w.cell? ⟨b, k * 5 + 1, none⟩ = some (.int .i64 xs[k].Score) ∧ w.cell? ⟨b, k * 5 + 2, none⟩ = some (.int .i64 xs[k].Quality) ∧ w.cell? ⟨b, k * 5 + 3, none⟩ = some (.int .i64 xs[k].Depth) ∧ w.cell? ⟨b, k * 5 + 4, none⟩ = some (.int .i64 xs[k].Hour) := ⟨A.get hk 0 _ rfl rfl, A.get hk 1 _ rfl rfl, A.get hk 2 _ rfl rfl, A.get hk 3 _ rfl rfl, A.get hk 4 _ rfl rfl⟩
theorem STest.elems {w : World} {b k : Nat} {xs : List STest} (A : Arr STest.cells 5 w b xs) (hk : k < xs.length) : (∀ p : Past w, p.w.cell? ⟨b, k * 5, none⟩ = some (.int .i64 xs[k].Kind)) ∧ (∀ p : Past w, p.w.cell? ⟨b, k * 5 + 1, none⟩ = some (.int .i64 xs[k].Score)) ∧ (∀ p : Past w, p.w.cell? ⟨b, k * 5 + 2, none⟩ = some (.int .i64 xs[k].Quality)) ∧ (∀ p : Past w, p.w.cell? ⟨b, k * 5 + 3, none⟩ = some (.int .i64 xs[k].Depth)) ∧ (∀ p : Past w, p.w.cell? ⟨b, k * 5 + 4, none⟩ = some (.int .i64 xs[k].Hour)) := ⟨Past.cell (A.get hk 0 _ rfl rfl) A.1, Past.cell (A.get hk 1 _ rfl rfl) A.1, Past.cell (A.get hk 2 _ rfl rfl) A.1, Past.cell (A.get hk 3 _ rfl rfl) A.1, Past.cell (A.get hk 4 _ rfl rfl) A.1⟩
theorem STest.past {w : World} {g : Nat} {x : STest} (h : ∀ j, w.cell? ⟨g, j, none⟩ = (#[.int .i64 x.Kind, .int .i64 x.Score, .int .i64 x.Quality, .int .i64 x.Depth, .int .i64 x.Hour] : Array Value)[j]?) (hg : g < w.heap.size) : (∀ p : Past w, p.w.cell? ⟨g, 0, none⟩ = some (.int .i64 x.Kind)) ∧ (∀ p : Past w, p.w.cell? ⟨g, 1, none⟩ = some (.int .i64 x.Score)) ∧ (∀ p : Past w, p.w.cell? ⟨g, 2, none⟩ = some (.int .i64 x.Quality)) ∧ (∀ p : Past w, p.w.cell? ⟨g, 3, none⟩ = some (.int .i64 x.Depth)) ∧ (∀ p : Past w, p.w.cell? ⟨g, 4, none⟩ = some (.int .i64 x.Hour)) := ⟨Past.cell (h 0) hg, Past.cell (h 1) hg, Past.cell (h 2) hg, Past.cell (h 3) hg, Past.cell (h 4) hg⟩
theorem STest.arg {w : World} {b o k : Nat} {xs : List STest} (A : ArgC STest.cells 5 w b o xs) (hk : k < xs.length) : w.cell? ⟨b, o + k * 5, none⟩ = some (.int .i64 xs[k].Kind) ∧ w.cell? ⟨b, o + k * 5 + 1, none⟩ = some (.int .i64 xs[k].Score) ∧ w.cell? ⟨b, o + k * 5 + 2, none⟩ = some (.int .i64 xs[k].Quality) ∧ w.cell? ⟨b, o + k * 5 + 3, none⟩ = some (.int .i64 xs[k].Depth) ∧ w.cell? ⟨b, o + k * 5 + 4, none⟩ = some (.int .i64 xs[k].Hour) := ⟨A.2 k hk 0 _ rfl, A.2 k hk 1 _ rfl, A.2 k hk 2 _ rfl, A.2 k hk 3 _ rfl, A.2 k hk 4 _ rfl⟩

end Go.Proofs.Ytlicpgmcnebpmaa
