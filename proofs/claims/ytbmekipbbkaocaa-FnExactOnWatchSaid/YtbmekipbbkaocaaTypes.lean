/- The structs of the program as plain Lean structures, and their cells. -/
import Derived.Test.YtbmekipbbkaocaaBase
namespace Go.Proofs.Ytbmekipbbkaocaa
set_option linter.unusedSimpArgs false
set_option linter.unusedVariables false
structure SWatch where
  Person : ByteArray
  Start : Int
  Hours : Int
  OnCall : Bool
def SWatch.cells (x : SWatch) : List Value := [.string x.Person, .int .i64 x.Start, .int .i64 x.Hours, .bool x.OnCall]
def SWatch.fits (x : SWatch) : Prop := x.Person.size ≤ 9223372036854775807 ∧ -9223372036854775808 ≤ x.Start ∧ x.Start ≤ 9223372036854775807 ∧ -9223372036854775808 ≤ x.Hours ∧ x.Hours ≤ 9223372036854775807
theorem SWatch.sizes {x : SWatch} (h : x.fits) : x.Person.size ≤ 9223372036854775807 := by unfold SWatch.fits at h; omega
theorem lenWatch {l : List Value} (h : l.length = 4) : ∃ c0 c1 c2 c3, l = [c0, c1, c2, c3] := match l, h with | [c0, c1, c2, c3], _ => ⟨c0, c1, c2, c3, rfl⟩
theorem SWatch.size (x : SWatch) : x.cells.length = 4 := rfl
theorem SWatch.elem {w : World} {b k : Nat} {xs : List SWatch} (A : Arr SWatch.cells 4 w b xs) (hk : k < xs.length) : w.cell? ⟨b, k * 4, none⟩ = some (.string xs[k].Person) ∧ w.cell? ⟨b, k * 4 + 1, none⟩ = some (.int .i64 xs[k].Start) ∧ w.cell? ⟨b, k * 4 + 2, none⟩ = some (.int .i64 xs[k].Hours) ∧ w.cell? ⟨b, k * 4 + 3, none⟩ = some (.bool xs[k].OnCall) := ⟨A.get hk 0 _ rfl rfl, A.get hk 1 _ rfl rfl, A.get hk 2 _ rfl rfl, A.get hk 3 _ rfl rfl⟩
theorem SWatch.elems {w : World} {b k : Nat} {xs : List SWatch} (A : Arr SWatch.cells 4 w b xs) (hk : k < xs.length) : (∀ p : Past w, p.w.cell? ⟨b, k * 4, none⟩ = some (.string xs[k].Person)) ∧ (∀ p : Past w, p.w.cell? ⟨b, k * 4 + 1, none⟩ = some (.int .i64 xs[k].Start)) ∧ (∀ p : Past w, p.w.cell? ⟨b, k * 4 + 2, none⟩ = some (.int .i64 xs[k].Hours)) ∧ (∀ p : Past w, p.w.cell? ⟨b, k * 4 + 3, none⟩ = some (.bool xs[k].OnCall)) := ⟨Past.cell (A.get hk 0 _ rfl rfl) A.1, Past.cell (A.get hk 1 _ rfl rfl) A.1, Past.cell (A.get hk 2 _ rfl rfl) A.1, Past.cell (A.get hk 3 _ rfl rfl) A.1⟩
theorem SWatch.past {w : World} {g : Nat} {x : SWatch} (h : ∀ j, w.cell? ⟨g, j, none⟩ = (#[.string x.Person, .int .i64 x.Start, .int .i64 x.Hours, .bool x.OnCall] : Array Value)[j]?) (hg : g < w.heap.size) : (∀ p : Past w, p.w.cell? ⟨g, 0, none⟩ = some (.string x.Person)) ∧ (∀ p : Past w, p.w.cell? ⟨g, 1, none⟩ = some (.int .i64 x.Start)) ∧ (∀ p : Past w, p.w.cell? ⟨g, 2, none⟩ = some (.int .i64 x.Hours)) ∧ (∀ p : Past w, p.w.cell? ⟨g, 3, none⟩ = some (.bool x.OnCall)) := ⟨Past.cell (h 0) hg, Past.cell (h 1) hg, Past.cell (h 2) hg, Past.cell (h 3) hg⟩
theorem SWatch.arg {w : World} {b o k : Nat} {xs : List SWatch} (A : ArgC SWatch.cells 4 w b o xs) (hk : k < xs.length) : w.cell? ⟨b, o + k * 4, none⟩ = some (.string xs[k].Person) ∧ w.cell? ⟨b, o + k * 4 + 1, none⟩ = some (.int .i64 xs[k].Start) ∧ w.cell? ⟨b, o + k * 4 + 2, none⟩ = some (.int .i64 xs[k].Hours) ∧ w.cell? ⟨b, o + k * 4 + 3, none⟩ = some (.bool xs[k].OnCall) := ⟨A.2 k hk 0 _ rfl, A.2 k hk 1 _ rfl, A.2 k hk 2 _ rfl, A.2 k hk 3 _ rfl⟩

end Go.Proofs.Ytbmekipbbkaocaa
