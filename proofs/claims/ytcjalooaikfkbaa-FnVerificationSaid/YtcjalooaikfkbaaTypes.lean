/- The structs of the program as plain Lean structures, and their cells. -/
import Derived.Test.YtcjalooaikfkbaaBase
namespace Go.Proofs.Ytcjalooaikfkbaa
set_option linter.unusedSimpArgs false
set_option linter.unusedVariables false
structure SObserved where
  Hour : Int
  Snow : Int
  Degrees : Int
  Wind : Int
def SObserved.cells (x : SObserved) : List Value := [.int .i64 x.Hour, .int .i64 x.Snow, .int .i64 x.Degrees, .int .i64 x.Wind]
def SObserved.fits (x : SObserved) : Prop := -9223372036854775808 ≤ x.Hour ∧ x.Hour ≤ 9223372036854775807 ∧ -9223372036854775808 ≤ x.Snow ∧ x.Snow ≤ 9223372036854775807 ∧ -9223372036854775808 ≤ x.Degrees ∧ x.Degrees ≤ 9223372036854775807 ∧ -9223372036854775808 ≤ x.Wind ∧ x.Wind ≤ 9223372036854775807
theorem lenObserved {l : List Value} (h : l.length = 4) : ∃ c0 c1 c2 c3, l = [c0, c1, c2, c3] := match l, h with | [c0, c1, c2, c3], _ => ⟨c0, c1, c2, c3, rfl⟩
theorem SObserved.size (x : SObserved) : x.cells.length = 4 := rfl
theorem SObserved.elem {w : World} {b k : Nat} {xs : List SObserved} (A : Arr SObserved.cells 4 w b xs) (hk : k < xs.length) : w.cell? ⟨b, k * 4, none⟩ = some (.int .i64 xs[k].Hour) ∧ w.cell? ⟨b, k * 4 + 1, none⟩ = some (.int .i64 xs[k].Snow) ∧ w.cell? ⟨b, k * 4 + 2, none⟩ = some (.int .i64 xs[k].Degrees) ∧ w.cell? ⟨b, k * 4 + 3, none⟩ = some (.int .i64 xs[k].Wind) := ⟨A.get hk 0 _ rfl rfl, A.get hk 1 _ rfl rfl, A.get hk 2 _ rfl rfl, A.get hk 3 _ rfl rfl⟩
theorem SObserved.elems {w : World} {b k : Nat} {xs : List SObserved} (A : Arr SObserved.cells 4 w b xs) (hk : k < xs.length) : (∀ p : Past w, p.w.cell? ⟨b, k * 4, none⟩ = some (.int .i64 xs[k].Hour)) ∧ (∀ p : Past w, p.w.cell? ⟨b, k * 4 + 1, none⟩ = some (.int .i64 xs[k].Snow)) ∧ (∀ p : Past w, p.w.cell? ⟨b, k * 4 + 2, none⟩ = some (.int .i64 xs[k].Degrees)) ∧ (∀ p : Past w, p.w.cell? ⟨b, k * 4 + 3, none⟩ = some (.int .i64 xs[k].Wind)) := ⟨Past.cell (A.get hk 0 _ rfl rfl) A.1, Past.cell (A.get hk 1 _ rfl rfl) A.1, Past.cell (A.get hk 2 _ rfl rfl) A.1, Past.cell (A.get hk 3 _ rfl rfl) A.1⟩
theorem SObserved.past {w : World} {g : Nat} {x : SObserved} (h : ∀ j, w.cell? ⟨g, j, none⟩ = (#[.int .i64 x.Hour, .int .i64 x.Snow, .int .i64 x.Degrees, .int .i64 x.Wind] : Array Value)[j]?) (hg : g < w.heap.size) : (∀ p : Past w, p.w.cell? ⟨g, 0, none⟩ = some (.int .i64 x.Hour)) ∧ (∀ p : Past w, p.w.cell? ⟨g, 1, none⟩ = some (.int .i64 x.Snow)) ∧ (∀ p : Past w, p.w.cell? ⟨g, 2, none⟩ = some (.int .i64 x.Degrees)) ∧ (∀ p : Past w, p.w.cell? ⟨g, 3, none⟩ = some (.int .i64 x.Wind)) := ⟨Past.cell (h 0) hg, Past.cell (h 1) hg, Past.cell (h 2) hg, Past.cell (h 3) hg⟩
theorem SObserved.arg {w : World} {b o k : Nat} {xs : List SObserved} (A : ArgC SObserved.cells 4 w b o xs) (hk : k < xs.length) : w.cell? ⟨b, o + k * 4, none⟩ = some (.int .i64 xs[k].Hour) ∧ w.cell? ⟨b, o + k * 4 + 1, none⟩ = some (.int .i64 xs[k].Snow) ∧ w.cell? ⟨b, o + k * 4 + 2, none⟩ = some (.int .i64 xs[k].Degrees) ∧ w.cell? ⟨b, o + k * 4 + 3, none⟩ = some (.int .i64 xs[k].Wind) := ⟨A.2 k hk 0 _ rfl, A.2 k hk 1 _ rfl, A.2 k hk 2 _ rfl, A.2 k hk 3 _ rfl⟩

structure SPart where
  Length : Int
  Width : Int
  Depth : Int
  Density : Int
def SPart.cells (x : SPart) : List Value := [.int .i64 x.Length, .int .i64 x.Width, .int .i64 x.Depth, .int .i64 x.Density]
def SPart.fits (x : SPart) : Prop := -9223372036854775808 ≤ x.Length ∧ x.Length ≤ 9223372036854775807 ∧ -9223372036854775808 ≤ x.Width ∧ x.Width ≤ 9223372036854775807 ∧ -9223372036854775808 ≤ x.Depth ∧ x.Depth ≤ 9223372036854775807 ∧ -9223372036854775808 ≤ x.Density ∧ x.Density ≤ 9223372036854775807
theorem lenPart {l : List Value} (h : l.length = 4) : ∃ c0 c1 c2 c3, l = [c0, c1, c2, c3] := match l, h with | [c0, c1, c2, c3], _ => ⟨c0, c1, c2, c3, rfl⟩
theorem SPart.size (x : SPart) : x.cells.length = 4 := rfl
theorem SPart.elem {w : World} {b k : Nat} {xs : List SPart} (A : Arr SPart.cells 4 w b xs) (hk : k < xs.length) : w.cell? ⟨b, k * 4, none⟩ = some (.int .i64 xs[k].Length) ∧ w.cell? ⟨b, k * 4 + 1, none⟩ = some (.int .i64 xs[k].Width) ∧ w.cell? ⟨b, k * 4 + 2, none⟩ = some (.int .i64 xs[k].Depth) ∧ w.cell? ⟨b, k * 4 + 3, none⟩ = some (.int .i64 xs[k].Density) := ⟨A.get hk 0 _ rfl rfl, A.get hk 1 _ rfl rfl, A.get hk 2 _ rfl rfl, A.get hk 3 _ rfl rfl⟩
theorem SPart.elems {w : World} {b k : Nat} {xs : List SPart} (A : Arr SPart.cells 4 w b xs) (hk : k < xs.length) : (∀ p : Past w, p.w.cell? ⟨b, k * 4, none⟩ = some (.int .i64 xs[k].Length)) ∧ (∀ p : Past w, p.w.cell? ⟨b, k * 4 + 1, none⟩ = some (.int .i64 xs[k].Width)) ∧ (∀ p : Past w, p.w.cell? ⟨b, k * 4 + 2, none⟩ = some (.int .i64 xs[k].Depth)) ∧ (∀ p : Past w, p.w.cell? ⟨b, k * 4 + 3, none⟩ = some (.int .i64 xs[k].Density)) := ⟨Past.cell (A.get hk 0 _ rfl rfl) A.1, Past.cell (A.get hk 1 _ rfl rfl) A.1, Past.cell (A.get hk 2 _ rfl rfl) A.1, Past.cell (A.get hk 3 _ rfl rfl) A.1⟩
theorem SPart.past {w : World} {g : Nat} {x : SPart} (h : ∀ j, w.cell? ⟨g, j, none⟩ = (#[.int .i64 x.Length, .int .i64 x.Width, .int .i64 x.Depth, .int .i64 x.Density] : Array Value)[j]?) (hg : g < w.heap.size) : (∀ p : Past w, p.w.cell? ⟨g, 0, none⟩ = some (.int .i64 x.Length)) ∧ (∀ p : Past w, p.w.cell? ⟨g, 1, none⟩ = some (.int .i64 x.Width)) ∧ (∀ p : Past w, p.w.cell? ⟨g, 2, none⟩ = some (.int .i64 x.Depth)) ∧ (∀ p : Past w, p.w.cell? ⟨g, 3, none⟩ = some (.int .i64 x.Density)) := ⟨Past.cell (h 0) hg, Past.cell (h 1) hg, Past.cell (h 2) hg, Past.cell (h 3) hg⟩
theorem SPart.arg {w : World} {b o k : Nat} {xs : List SPart} (A : ArgC SPart.cells 4 w b o xs) (hk : k < xs.length) : w.cell? ⟨b, o + k * 4, none⟩ = some (.int .i64 xs[k].Length) ∧ w.cell? ⟨b, o + k * 4 + 1, none⟩ = some (.int .i64 xs[k].Width) ∧ w.cell? ⟨b, o + k * 4 + 2, none⟩ = some (.int .i64 xs[k].Depth) ∧ w.cell? ⟨b, o + k * 4 + 3, none⟩ = some (.int .i64 xs[k].Density) := ⟨A.2 k hk 0 _ rfl, A.2 k hk 1 _ rfl, A.2 k hk 2 _ rfl, A.2 k hk 3 _ rfl⟩

structure SStand where
  Id : ByteArray
  Trees : Int
  Height : Int
  Cover : Int
  Gap : Int
def SStand.cells (x : SStand) : List Value := [.string x.Id, .int .i64 x.Trees, .int .i64 x.Height, .int .i64 x.Cover, .int .i64 x.Gap]
def SStand.fits (x : SStand) : Prop := x.Id.size ≤ 9223372036854775807 ∧ -9223372036854775808 ≤ x.Trees ∧ x.Trees ≤ 9223372036854775807 ∧ -9223372036854775808 ≤ x.Height ∧ x.Height ≤ 9223372036854775807 ∧ -9223372036854775808 ≤ x.Cover ∧ x.Cover ≤ 9223372036854775807 ∧ -9223372036854775808 ≤ x.Gap ∧ x.Gap ≤ 9223372036854775807
theorem SStand.sizes {x : SStand} (h : x.fits) : x.Id.size ≤ 9223372036854775807 := by unfold SStand.fits at h; omega
theorem lenStand {l : List Value} (h : l.length = 5) : ∃ c0 c1 c2 c3 c4, l = [c0, c1, c2, c3, c4] := match l, h with | [c0, c1, c2, c3, c4], _ => ⟨c0, c1, c2, c3, c4, rfl⟩
theorem SStand.size (x : SStand) : x.cells.length = 5 := rfl
theorem SStand.elem {w : World} {b k : Nat} {xs : List SStand} (A : Arr SStand.cells 5 w b xs) (hk : k < xs.length) : w.cell? ⟨b, k * 5, none⟩ = some (.string xs[k].Id) ∧ w.cell? ⟨b, k * 5 + 1, none⟩ = some (.int .i64 xs[k].Trees) ∧ w.cell? ⟨b, k * 5 + 2, none⟩ = some (.int .i64 xs[k].Height) ∧ w.cell? ⟨b, k * 5 + 3, none⟩ = some (.int .i64 xs[k].Cover) ∧ w.cell? ⟨b, k * 5 + 4, none⟩ = some (.int .i64 xs[k].Gap) := ⟨A.get hk 0 _ rfl rfl, A.get hk 1 _ rfl rfl, A.get hk 2 _ rfl rfl, A.get hk 3 _ rfl rfl, A.get hk 4 _ rfl rfl⟩
theorem SStand.elems {w : World} {b k : Nat} {xs : List SStand} (A : Arr SStand.cells 5 w b xs) (hk : k < xs.length) : (∀ p : Past w, p.w.cell? ⟨b, k * 5, none⟩ = some (.string xs[k].Id)) ∧ (∀ p : Past w, p.w.cell? ⟨b, k * 5 + 1, none⟩ = some (.int .i64 xs[k].Trees)) ∧ (∀ p : Past w, p.w.cell? ⟨b, k * 5 + 2, none⟩ = some (.int .i64 xs[k].Height)) ∧ (∀ p : Past w, p.w.cell? ⟨b, k * 5 + 3, none⟩ = some (.int .i64 xs[k].Cover)) ∧ (∀ p : Past w, p.w.cell? ⟨b, k * 5 + 4, none⟩ = some (.int .i64 xs[k].Gap)) := ⟨Past.cell (A.get hk 0 _ rfl rfl) A.1, Past.cell (A.get hk 1 _ rfl rfl) A.1, Past.cell (A.get hk 2 _ rfl rfl) A.1, Past.cell (A.get hk 3 _ rfl rfl) A.1, Past.cell (A.get hk 4 _ rfl rfl) A.1⟩
theorem SStand.past {w : World} {g : Nat} {x : SStand} (h : ∀ j, w.cell? ⟨g, j, none⟩ = (#[.string x.Id, .int .i64 x.Trees, .int .i64 x.Height, .int .i64 x.Cover, .int .i64 x.Gap] : Array Value)[j]?) (hg : g < w.heap.size) : (∀ p : Past w, p.w.cell? ⟨g, 0, none⟩ = some (.string x.Id)) ∧ (∀ p : Past w, p.w.cell? ⟨g, 1, none⟩ = some (.int .i64 x.Trees)) ∧ (∀ p : Past w, p.w.cell? ⟨g, 2, none⟩ = some (.int .i64 x.Height)) ∧ (∀ p : Past w, p.w.cell? ⟨g, 3, none⟩ = some (.int .i64 x.Cover)) ∧ (∀ p : Past w, p.w.cell? ⟨g, 4, none⟩ = some (.int .i64 x.Gap)) := ⟨Past.cell (h 0) hg, Past.cell (h 1) hg, Past.cell (h 2) hg, Past.cell (h 3) hg, Past.cell (h 4) hg⟩
theorem SStand.arg {w : World} {b o k : Nat} {xs : List SStand} (A : ArgC SStand.cells 5 w b o xs) (hk : k < xs.length) : w.cell? ⟨b, o + k * 5, none⟩ = some (.string xs[k].Id) ∧ w.cell? ⟨b, o + k * 5 + 1, none⟩ = some (.int .i64 xs[k].Trees) ∧ w.cell? ⟨b, o + k * 5 + 2, none⟩ = some (.int .i64 xs[k].Height) ∧ w.cell? ⟨b, o + k * 5 + 3, none⟩ = some (.int .i64 xs[k].Cover) ∧ w.cell? ⟨b, o + k * 5 + 4, none⟩ = some (.int .i64 xs[k].Gap) := ⟨A.2 k hk 0 _ rfl, A.2 k hk 1 _ rfl, A.2 k hk 2 _ rfl, A.2 k hk 3 _ rfl, A.2 k hk 4 _ rfl⟩

structure SVerified where
  Day : Int
  Told : Int
  Seen : Int
def SVerified.cells (x : SVerified) : List Value := [.int .i64 x.Day, .int .i64 x.Told, .int .i64 x.Seen]
def SVerified.fits (x : SVerified) : Prop := -9223372036854775808 ≤ x.Day ∧ x.Day ≤ 9223372036854775807 ∧ -9223372036854775808 ≤ x.Told ∧ x.Told ≤ 9223372036854775807 ∧ -9223372036854775808 ≤ x.Seen ∧ x.Seen ≤ 9223372036854775807
theorem lenVerified {l : List Value} (h : l.length = 3) : ∃ c0 c1 c2, l = [c0, c1, c2] := match l, h with | [c0, c1, c2], _ => ⟨c0, c1, c2, rfl⟩
theorem SVerified.size (x : SVerified) : x.cells.length = 3 := rfl
theorem SVerified.elem {w : World} {b k : Nat} {xs : List SVerified} (A : Arr SVerified.cells 3 w b xs) (hk : k < xs.length) : w.cell? ⟨b, k * 3, none⟩ = some (.int .i64 xs[k].Day) ∧ w.cell? ⟨b, k * 3 + 1, none⟩ = some (.int .i64 xs[k].Told) ∧ w.cell? ⟨b, k * 3 + 2, none⟩ = some (.int .i64 xs[k].Seen) := ⟨A.get hk 0 _ rfl rfl, A.get hk 1 _ rfl rfl, A.get hk 2 _ rfl rfl⟩
theorem SVerified.elems {w : World} {b k : Nat} {xs : List SVerified} (A : Arr SVerified.cells 3 w b xs) (hk : k < xs.length) : (∀ p : Past w, p.w.cell? ⟨b, k * 3, none⟩ = some (.int .i64 xs[k].Day)) ∧ (∀ p : Past w, p.w.cell? ⟨b, k * 3 + 1, none⟩ = some (.int .i64 xs[k].Told)) ∧ (∀ p : Past w, p.w.cell? ⟨b, k * 3 + 2, none⟩ = some (.int .i64 xs[k].Seen)) := ⟨Past.cell (A.get hk 0 _ rfl rfl) A.1, Past.cell (A.get hk 1 _ rfl rfl) A.1, Past.cell (A.get hk 2 _ rfl rfl) A.1⟩
theorem SVerified.past {w : World} {g : Nat} {x : SVerified} (h : ∀ j, w.cell? ⟨g, j, none⟩ = (#[.int .i64 x.Day, .int .i64 x.Told, .int .i64 x.Seen] : Array Value)[j]?) (hg : g < w.heap.size) : (∀ p : Past w, p.w.cell? ⟨g, 0, none⟩ = some (.int .i64 x.Day)) ∧ (∀ p : Past w, p.w.cell? ⟨g, 1, none⟩ = some (.int .i64 x.Told)) ∧ (∀ p : Past w, p.w.cell? ⟨g, 2, none⟩ = some (.int .i64 x.Seen)) := ⟨Past.cell (h 0) hg, Past.cell (h 1) hg, Past.cell (h 2) hg⟩
theorem SVerified.arg {w : World} {b o k : Nat} {xs : List SVerified} (A : ArgC SVerified.cells 3 w b o xs) (hk : k < xs.length) : w.cell? ⟨b, o + k * 3, none⟩ = some (.int .i64 xs[k].Day) ∧ w.cell? ⟨b, o + k * 3 + 1, none⟩ = some (.int .i64 xs[k].Told) ∧ w.cell? ⟨b, o + k * 3 + 2, none⟩ = some (.int .i64 xs[k].Seen) := ⟨A.2 k hk 0 _ rfl, A.2 k hk 1 _ rfl, A.2 k hk 2 _ rfl⟩

end Go.Proofs.Ytcjalooaikfkbaa
