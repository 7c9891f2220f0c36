/- The structs of the program as plain Lean structures, and their cells. -/
import Derived.Test.YtoiobpmpkfdidaaBase
namespace Go.Proofs.Ytoiobpmpkfdidaa
set_option linter.unusedSimpArgs false
set_option linter.unusedVariables false
structure SObserved where
  Hour : Int
  Snow : Int
  Degrees : Int
  Wind : Int
def SObserved.cells (x : SObserved) : List Value := [.int .i64 x.Hour, .int .i64 x.Snow, .int .i64 x.Degrees, .int .i64 x.Wind]
def SObserved.fits (x : SObserved) : Prop := -9223372036854775808 ≤ x.Hour ∧ x.Hour ≤ 9223372036854775807 ∧ -9223372036854775808 ≤ x.Snow ∧ x.Snow ≤ 9223372036854775807 ∧ -9223372036854775808 ≤ x.Degrees ∧ x.Degrees ≤ 9223372036854775807 ∧ -9223372036854775808 ≤ x.Wind ∧ x.Wind ≤ 9223372036854775807
theorem lenObserved {l : List Value} (h : l.length = 4) : ∃ c0 c1 c2 c3, l = [c0, c1, c2, c3] := match l, h with | [c0, c1, c2, c3], _ => ⟨c0, c1, c2, c3, rfl⟩
theorem SObserved.size (x : SObserved) : x.cells.length = 4 := rfl
theorem SObserved.elem {w : World} {b k : Nat} {xs : List SObserved} (A : Arr SObserved.cells 4 w b xs) (hk : k < xs.length) : w.cell? ⟨b, k * 4, none⟩ = some (.int .i64 xs[k].Hour) ∧ w.cell? ⟨b, k * 4 + 1, none⟩ = some (.int .i64 xs[k].Snow) ∧ w.cell? ⟨b, k * 4 + 2, none⟩ = some (.int .i64 xs[k].Degrees) ∧ w.cell? ⟨b, k * 4 + 3, none⟩ = some (.int .i64 xs[k].Wind) := ⟨A.get hk 0 _ rfl rfl, A.get hk 1 _ rfl rfl, A.get hk 2 _ rfl rfl, A.get hk 3 _ rfl rfl⟩
theorem SObserved.elems {w : World} {b k : Nat} {xs : List SObserved} (A : Arr SObserved.cells 4 w b xs) (hk : k < xs.length) : (∀ p : Past w, p.w.cell? ⟨b, k * 4, none⟩ = some (.int .i64 xs[k].Hour)) ∧ (∀ p : Past w, p.w.cell? ⟨b, k * 4 + 1, none⟩ = some (.int .i64 xs[k].Snow)) ∧ (∀ p : Past w, p.w.cell? ⟨b, k * 4 + 2, none⟩ = some (.int .i64 xs[k].Degrees)) ∧ (∀ p : Past w, p.w.cell? ⟨b, k * 4 + 3, none⟩ = some (.int .i64 xs[k].Wind)) := ⟨Past.cell (A.get hk 0 _ rfl rfl) A.1, Past.cell (A.get hk 1 _ rfl rfl) A.1, Past.cell (A.get hk 2 _ rfl rfl) A.1, Past.cell (A.get hk 3 _ rfl rfl) A.1⟩
theorem SObserved.past {w : World} {g : Nat} {x : SObserved} (h : ∀ j, w.cell? ⟨g, j, none⟩ = (#[.int .i64 x.Hour, .int .i64 x.Snow, .int .i64 x.Degrees, .int .i64 x.Wind] : Array Value)[j]?) (hg : g < w.heap.size) : (∀ p : Past w, p.w.cell? ⟨g, 0, none⟩ = some (.int .i64 x.Hour)) ∧ (∀ p : Past w, p.w.cell? ⟨g, 1, none⟩ = some (.int .i64 x.Snow)) ∧ (∀ p : Past w, p.w.cell? ⟨g, 2, none⟩ = some (.int .i64 x.Degrees)) ∧ (∀ p : Past w, p.w.cell? ⟨g, 3, none⟩ = some (.int .i64 x.Wind)) := ⟨Past.cell (h 0) hg, Past.cell (h 1) hg, Past.cell (h 2) hg, Past.cell (h 3) hg⟩
theorem SObserved.arg {w : World} {b o k : Nat} {xs : List SObserved} (A : ArgC SObserved.cells 4 w b o xs) (hk : k < xs.length) : w.cell? ⟨b, o + k * 4, none⟩ = some (.int .i64 xs[k].Hour) ∧ w.cell? ⟨b, o + k * 4 + 1, none⟩ = some (.int .i64 xs[k].Snow) ∧ w.cell? ⟨b, o + k * 4 + 2, none⟩ = some (.int .i64 xs[k].Degrees) ∧ w.cell? ⟨b, o + k * 4 + 3, none⟩ = some (.int .i64 xs[k].Wind) := ⟨A.2 k hk 0 _ rfl, A.2 k hk 1 _ rfl, A.2 k hk 2 _ rfl, A.2 k hk 3 _ rfl⟩

end Go.Proofs.Ytoiobpmpkfdidaa
