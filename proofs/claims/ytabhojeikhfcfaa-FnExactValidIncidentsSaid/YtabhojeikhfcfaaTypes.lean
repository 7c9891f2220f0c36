/- The structs of the program as plain Lean structures, and their cells. -/
import Derived.Test.YtabhojeikhfcfaaBase
namespace Go.Proofs.Ytabhojeikhfcfaa
structure SIncident where
  Day : Int
  Place : ByteArray
  Cause : ByteArray
  Level : Int
  Caught : Int
  Buried : Int
def SIncident.cells (x : SIncident) : List Value := [.int .i64 x.Day, .string x.Place, .string x.Cause, .int .i64 x.Level, .int .i64 x.Caught, .int .i64 x.Buried]
def SIncident.fits (x : SIncident) : Prop := -9223372036854775808 ≤ x.Day ∧ x.Day ≤ 9223372036854775807 ∧ x.Place.size ≤ 9223372036854775807 ∧ x.Cause.size ≤ 9223372036854775807 ∧ -9223372036854775808 ≤ x.Level ∧ x.Level ≤ 9223372036854775807 ∧ -9223372036854775808 ≤ x.Caught ∧ x.Caught ≤ 9223372036854775807 ∧ -9223372036854775808 ≤ x.Buried ∧ x.Buried ≤ 9223372036854775807
theorem SIncident.sizes {x : SIncident} (h : x.fits) : x.Place.size ≤ 9223372036854775807 ∧ x.Cause.size ≤ 9223372036854775807 := by unfold SIncident.fits at h; omega
theorem lenIncident {l : List Value} (h : l.length = 6) : ∃ c0 c1 c2 c3 c4 c5, l = [c0, c1, c2, c3, c4, c5] := match l, h with | [c0, c1, c2, c3, c4, c5], _ => ⟨c0, c1, c2, c3, c4, c5, rfl⟩
theorem SIncident.size (x : SIncident) : x.cells.length = 6 := rfl
theorem SIncident.elem {w : World} {b k : Nat} {xs : List SIncident} (A : Arr SIncident.cells 6 w b xs) (hk : k < xs.length) : w.cell? ⟨b, k * 6, none⟩ = some (.int .i64 xs[k].Day) ∧ w.cell? ⟨b, k * 6 + 1, none⟩ = some (.string xs[k].Place) ∧ w.cell? ⟨b, k * 6 + 2, none⟩ = some (.string xs[k].Cause) ∧ w.cell? ⟨b, k * 6 + 3, none⟩ = some (.int .i64 xs[k].Level) ∧ w.cell? ⟨b, k * 6 + 4, none⟩ = some (.int .i64 xs[k].Caught) ∧ w.cell? ⟨b, k * 6 + 5, none⟩ = some (.int .i64 xs[k].Buried) := ⟨A.get hk 0 _ rfl rfl, A.get hk 1 _ rfl rfl, A.get hk 2 _ rfl rfl, A.get hk 3 _ rfl rfl, A.get hk 4 _ rfl rfl, A.get hk 5 _ rfl rfl⟩
theorem SIncident.elems {w : World} {b k : Nat} {xs : List SIncident} (A : Arr SIncident.cells 6 w b xs) (hk : k < xs.length) : (∀ p : Past w, p.w.cell? ⟨b, k * 6, none⟩ = some (.int .i64 xs[k].Day)) ∧ (∀ p : Past w, p.w.cell? ⟨b, k * 6 + 1, none⟩ = some (.string xs[k].Place)) ∧ (∀ p : Past w, p.w.cell? ⟨b, k * 6 + 2, none⟩ = some (.string xs[k].Cause)) ∧ (∀ p : Past w, p.w.cell? ⟨b, k * 6 + 3, none⟩ = some (.int .i64 xs[k].Level)) ∧ (∀ p : Past w, p.w.cell? ⟨b, k * 6 + 4, none⟩ = some (.int .i64 xs[k].Caught)) ∧ (∀ p : Past w, p.w.cell? ⟨b, k * 6 + 5, none⟩ = some (.int .i64 xs[k].Buried)) := ⟨Past.cell (A.get hk 0 _ rfl rfl) A.1, Past.cell (A.get hk 1 _ rfl rfl) A.1, Past.cell (A.get hk 2 _ rfl rfl) A.1, Past.cell (A.get hk 3 _ rfl rfl) A.1, Past.cell (A.get hk 4 _ rfl rfl) A.1, Past.cell (A.get hk 5 _ rfl rfl) A.1⟩
theorem SIncident.past {w : World} {g : Nat} {x : SIncident} (h : ∀ j, w.cell? ⟨g, j, none⟩ = (#[.int .i64 x.Day, .string x.Place, .string x.Cause, .int .i64 x.Level, .int .i64 x.Caught, .int .i64 x.Buried] : Array Value)[j]?) (hg : g < w.heap.size) : (∀ p : Past w, p.w.cell? ⟨g, 0, none⟩ = some (.int .i64 x.Day)) ∧ (∀ p : Past w, p.w.cell? ⟨g, 1, none⟩ = some (.string x.Place)) ∧ (∀ p : Past w, p.w.cell? ⟨g, 2, none⟩ = some (.string x.Cause)) ∧ (∀ p : Past w, p.w.cell? ⟨g, 3, none⟩ = some (.int .i64 x.Level)) ∧ (∀ p : Past w, p.w.cell? ⟨g, 4, none⟩ = some (.int .i64 x.Caught)) ∧ (∀ p : Past w, p.w.cell? ⟨g, 5, none⟩ = some (.int .i64 x.Buried)) := ⟨Past.cell (h 0) hg, Past.cell (h 1) hg, Past.cell (h 2) hg, Past.cell (h 3) hg, Past.cell (h 4) hg, Past.cell (h 5) hg⟩
theorem SIncident.arg {w : World} {b o k : Nat} {xs : List SIncident} (A : ArgC SIncident.cells 6 w b o xs) (hk : k < xs.length) : w.cell? ⟨b, o + k * 6, none⟩ = some (.int .i64 xs[k].Day) ∧ w.cell? ⟨b, o + k * 6 + 1, none⟩ = some (.string xs[k].Place) ∧ w.cell? ⟨b, o + k * 6 + 2, none⟩ = some (.string xs[k].Cause) ∧ w.cell? ⟨b, o + k * 6 + 3, none⟩ = some (.int .i64 xs[k].Level) ∧ w.cell? ⟨b, o + k * 6 + 4, none⟩ = some (.int .i64 xs[k].Caught) ∧ w.cell? ⟨b, o + k * 6 + 5, none⟩ = some (.int .i64 xs[k].Buried) := ⟨A.2 k hk 0 _ rfl, A.2 k hk 1 _ rfl, A.2 k hk 2 _ rfl, A.2 k hk 3 _ rfl, A.2 k hk 4 _ rfl, A.2 k hk 5 _ rfl⟩

end Go.Proofs.Ytabhojeikhfcfaa
