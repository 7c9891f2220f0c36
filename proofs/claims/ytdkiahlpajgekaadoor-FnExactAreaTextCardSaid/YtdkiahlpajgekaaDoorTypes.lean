/- The structs of the program as plain Lean structures, and their cells. -/
import Derived.Test.YtdkiahlpajgekaaDoorBase
namespace Go.Proofs.YtdkiahlpajgekaaDoor
set_option linter.unusedSimpArgs false
set_option linter.unusedVariables false
structure SArea where
  Id : ByteArray
  Chance : Int
  Minutes : Int
def SArea.cells (x : SArea) : List Value := [.string x.Id, .int .i64 x.Chance, .int .i64 x.Minutes]
def SArea.fits (x : SArea) : Prop := x.Id.size ≤ 9223372036854775807 ∧ -9223372036854775808 ≤ x.Chance ∧ x.Chance ≤ 9223372036854775807 ∧ -9223372036854775808 ≤ x.Minutes ∧ x.Minutes ≤ 9223372036854775807
theorem SArea.sizes {x : SArea} (h : x.fits) : x.Id.size ≤ 9223372036854775807 := by unfold SArea.fits at h; omega
theorem lenArea {l : List Value} (h : l.length = 3) : ∃ c0 c1 c2, l = [c0, c1, c2] := match l, h with | [c0, c1, c2], _ => ⟨c0, c1, c2, rfl⟩
theorem SArea.size (x : SArea) : x.cells.length = 3 := rfl
theorem SArea.elem {w : World} {b k : Nat} {xs : List SArea} (A : Arr SArea.cells 3 w b xs) (hk : k < xs.length) : w.cell? ⟨b, k * 3, none⟩ = some (.string xs[k].Id) ∧ w.cell? ⟨b, k * 3 + 1, none⟩ = some (.int .i64 xs[k].Chance) ∧ w.cell? ⟨b, k * 3 + 2, none⟩ = some (.int .i64 xs[k].Minutes) := ⟨A.get hk 0 _ rfl rfl, A.get hk 1 _ rfl rfl, A.get hk 2 _ rfl rfl⟩
theorem SArea.elems {w : World} {b k : Nat} {xs : List SArea} (A : Arr SArea.cells 3 w b xs) (hk : k < xs.length) : (∀ p : Past w, p.w.cell? ⟨b, k * 3, none⟩ = some (.string xs[k].Id)) ∧ (∀ p : Past w, p.w.cell? ⟨b, k * 3 + 1, none⟩ = some (.int .i64 xs[k].Chance)) ∧ (∀ p : Past w, p.w.cell? ⟨b, k * 3 + 2, none⟩ = some (.int .i64 xs[k].Minutes)) := ⟨Past.cell (A.get hk 0 _ rfl rfl) A.1, Past.cell (A.get hk 1 _ rfl rfl) A.1, Past.cell (A.get hk 2 _ rfl rfl) A.1⟩
theorem SArea.past {w : World} {g : Nat} {x : SArea} (h : ∀ j, w.cell? ⟨g, j, none⟩ = (#[.string x.Id, .int .i64 x.Chance, .int .i64 x.Minutes] : Array Value)[j]?) (hg : g < w.heap.size) : (∀ p : Past w, p.w.cell? ⟨g, 0, none⟩ = some (.string x.Id)) ∧ (∀ p : Past w, p.w.cell? ⟨g, 1, none⟩ = some (.int .i64 x.Chance)) ∧ (∀ p : Past w, p.w.cell? ⟨g, 2, none⟩ = some (.int .i64 x.Minutes)) := ⟨Past.cell (h 0) hg, Past.cell (h 1) hg, Past.cell (h 2) hg⟩
theorem SArea.arg {w : World} {b o k : Nat} {xs : List SArea} (A : ArgC SArea.cells 3 w b o xs) (hk : k < xs.length) : w.cell? ⟨b, o + k * 3, none⟩ = some (.string xs[k].Id) ∧ w.cell? ⟨b, o + k * 3 + 1, none⟩ = some (.int .i64 xs[k].Chance) ∧ w.cell? ⟨b, o + k * 3 + 2, none⟩ = some (.int .i64 xs[k].Minutes) := ⟨A.2 k hk 0 _ rfl, A.2 k hk 1 _ rfl, A.2 k hk 2 _ rfl⟩

end Go.Proofs.YtdkiahlpajgekaaDoor
