/- The structs of the program as plain Lean structures, and their cells. -/
import Derived.Test.YtamolhhccfnlfaaBase
namespace Go.Proofs.Ytamolhhccfnlfaa
structure SStand where
  Id : ByteArray
  Trees : Int
  Height : Int
  Cover : Int
  Gap : Int
def SStand.cells (x : SStand) : List Value := [.string x.Id, .int .i64 x.Trees, .int .i64 x.Height, .int .i64 x.Cover, .int .i64 x.Gap]
def SStand.fits (x : SStand) : Prop := x.Id.size ≤ 9223372036854775807 ∧ -9223372036854775808 ≤ x.Trees ∧ x.Trees ≤ 9223372036854775807 ∧ -9223372036854775808 ≤ x.Height ∧ x.Height ≤ 9223372036854775807 ∧ -9223372036854775808 ≤ x.Cover ∧ x.Cover ≤ 9223372036854775807 ∧ -9223372036854775808 ≤ x.Gap ∧ x.Gap ≤ 9223372036854775807
theorem SStand.sizes {x : SStand} (h : x.fits) : x.Id.size ≤ 9223372036854775807 := by unfold SStand.fits at h; omega
theorem lenStand {l : List Value} (h : l.length = 5) : ∃ c0 c1 c2 c3 c4, l = [c0, c1, c2, c3, c4] := match l, h with | [c0, c1, c2, c3, c4], _ => ⟨c0, c1, c2, c3, c4, rfl⟩
theorem SStand.size (x : SStand) : x.cells.length = 5 := rfl
theorem SStand.elem {w : World} {b k : Nat} {xs : List SStand} (A : Arr SStand.cells 5 w b xs) (hk : k < xs.length) : w.cell? ⟨b, k * 5, none⟩ = some (.string xs[k].Id) ∧ w.cell? ⟨b, k * 5 + 1, none⟩ = some (.int .i64 xs[k].Trees) ∧ w.cell? ⟨b, k * 5 + 2, none⟩ = some (.int .i64 xs[k].Height) ∧ w.cell? ⟨b, k * 5 + 3, none⟩ = some (.int .i64 xs[k].Cover) ∧ w.cell? ⟨b, k * 5 + 4, none⟩ = some (.int .i64 xs[k].Gap) := ⟨A.get hk 0 _ rfl rfl, A.get hk 1 _ rfl rfl, A.get hk 2 _ rfl rfl, A.get hk 3 _ rfl rfl, A.get hk 4 _ rfl rfl⟩
theorem SStand.elems {w : World} {b k : Nat} {xs : List SStand} (A : Arr SStand.cells 5 w b xs) (hk : k < xs.length) : (∀ p : Past w, p.w.cell? ⟨b, k * 5, none⟩ = some (.string xs[k].Id)) ∧ (∀ p : Past w, p.w.cell? ⟨b, k * 5 + 1, none⟩ = some (.int .i64 xs[k].Trees)) ∧ (∀ p : Past w, p.w.cell? ⟨b, k * 5 + 2, none⟩ = some (.int .i64 xs[k].Height)) ∧ (∀ p : Past w, p.w.cell? ⟨b, k * 5 + 3, none⟩ = some (.int .i64 xs[k].Cover)) ∧ (∀ p : Past w, p.w.cell? ⟨b, k * 5 + 4, none⟩ = some (.int .i64 xs[k].Gap)) := ⟨Past.cell (A.get hk 0 _ rfl rfl) A.1, Past.cell (A.get hk 1 _ rfl rfl) A.1, Past.cell (A.get hk 2 _ rfl rfl) A.1, Past.cell (A.get hk 3 _ rfl rfl) A.1, Past.cell (A.get hk 4 _ rfl rfl) A.1⟩
theorem SStand.past {w : World} {g : Nat} {x : SStand} (h : ∀ j, w.cell? ⟨g, j, none⟩ = (#[.string x.Id, .int .i64 x.Trees, .int .i64 x.Height, .int .i64 x.Cover, .int .i64 x.Gap] : Array Value)[j]?) (hg : g < w.heap.size) : (∀ p : Past w, p.w.cell? ⟨g, 0, none⟩ = some (.string x.Id)) ∧ (∀ p : Past w, p.w.cell? ⟨g, 1, none⟩ = some (.int .i64 x.Trees)) ∧ (∀ p : Past w, p.w.cell? ⟨g, 2, none⟩ = some (.int .i64 x.Height)) ∧ (∀ p : Past w, p.w.cell? ⟨g, 3, none⟩ = some (.int .i64 x.Cover)) ∧ (∀ p : Past w, p.w.cell? ⟨g, 4, none⟩ = some (.int .i64 x.Gap)) := ⟨Past.cell (h 0) hg, Past.cell (h 1) hg, Past.cell (h 2) hg, Past.cell (h 3) hg, Past.cell (h 4) hg⟩
theorem SStand.arg {w : World} {b o k : Nat} {xs : List SStand} (A : ArgC SStand.cells 5 w b o xs) (hk : k < xs.length) : w.cell? ⟨b, o + k * 5, none⟩ = some (.string xs[k].Id) ∧ w.cell? ⟨b, o + k * 5 + 1, none⟩ = some (.int .i64 xs[k].Trees) ∧ w.cell? ⟨b, o + k * 5 + 2, none⟩ = some (.int .i64 xs[k].Height) ∧ w.cell? ⟨b, o + k * 5 + 3, none⟩ = some (.int .i64 xs[k].Cover) ∧ w.cell? ⟨b, o + k * 5 + 4, none⟩ = some (.int .i64 xs[k].Gap) := ⟨A.2 k hk 0 _ rfl, A.2 k hk 1 _ rfl, A.2 k hk 2 _ rfl, A.2 k hk 3 _ rfl, A.2 k hk 4 _ rfl⟩

structure SVerified where
  Day : Int
  Told : Int
  Seen : Int
def SVerified.cells (x : SVerified) : List Value := [.int .i64 x.Day, .int .i64 x.Told, .int .i64 x.Seen]
def SVerified.fits (x : SVerified) : Prop := -9223372036854775808 ≤ x.Day ∧ x.Day ≤ 9223372036854775807 ∧ -9223372036854775808 ≤ x.Told ∧ x.Told ≤ 9223372036854775807 ∧ -9223372036854775808 ≤ x.Seen ∧ x.Seen ≤ 9223372036854775807
theorem lenVerified {l : List Value} (h : l.length = 3) : ∃ c0 c1 c2, l = [c0, c1, c2] := match l, h with | [c0, c1, c2], _ => ⟨c0, c1, c2, rfl⟩
theorem SVerified.size (x : SVerified) : x.cells.length = 3 := rfl
theorem SVerified.elem {w : World} {b k : Nat} {xs : List SVerified} (A : Arr SVerified.cells 3 w b xs) (hk : k < xs.length) : w.cell? ⟨b, k * 3, none⟩ = some (.int .i64 xs[k].Day) ∧ w.cell? ⟨b, k * 3 + 1, none⟩ = some (.int .i64 xs[k].Told) ∧ w.cell? ⟨b, k * 3 + 2, none⟩ = some (.int .i64 xs[k].Seen) := ⟨A.get hk 0 _ rfl rfl, A.get hk 1 _ rfl rfl, A.get hk 2 _ rfl rfl⟩
theorem SVerified.elems {w : World} {b k : Nat} {xs : List SVerified} (A : Arr SVerified.cells 3 w b xs) (hk : k < xs.length) : (∀ p : Past w, p.w.cell? ⟨b, k * 3, none⟩ = some (.int .i64 xs[k].Day)) ∧ (∀ p : Past w, p.w.cell? ⟨b, k * 3 + 1, none⟩ = some (.int .i64 xs[k].Told)) ∧ (∀ p : Past w, p.w.cell? ⟨b, k * 3 + 2, none⟩ = some (.int .i64 xs[k].Seen)) := ⟨Past.cell (A.get hk 0 _ rfl rfl) A.1, Past.cell (A.get hk 1 _ rfl rfl) A.1, Past.cell (A.get hk 2 _ rfl rfl) A.1⟩
theorem SVerified.past {w : World} {g : Nat} {x : SVerified} (h : ∀ j, w.cell? ⟨g, j, none⟩ = (#[.int .i64 x.Day, .int .i64 x.Told, .int .i64 x.Seen] : Array Value)[j]?) (hg : g < w.heap.size) : (∀ p : Past w, p.w.cell? ⟨g, 0, none⟩ = some (.int .i64 x.Day)) ∧ (∀ p : Past w, p.w.cell? ⟨g, 1, none⟩ = some (.int .i64 x.Told)) ∧ (∀ p : Past w, p.w.cell? ⟨g, 2, none⟩ = some (.int .i64 x.Seen)) := ⟨Past.cell (h 0) hg, Past.cell (h 1) hg, Past.cell (h 2) hg⟩
theorem SVerified.arg {w : World} {b o k : Nat} {xs : List SVerified} (A : ArgC SVerified.cells 3 w b o xs) (hk : k < xs.length) : w.cell? ⟨b, o + k * 3, none⟩ = some (.int .i64 xs[k].Day) ∧ w.cell? ⟨b, o + k * 3 + 1, none⟩ = some (.int .i64 xs[k].Told) ∧ w.cell? ⟨b, o + k * 3 + 2, none⟩ = some (.int .i64 xs[k].Seen) := ⟨A.2 k hk 0 _ rfl, A.2 k hk 1 _ rfl, A.2 k hk 2 _ rfl⟩

end Go.Proofs.Ytamolhhccfnlfaa
