/- The structs of the program as plain Lean structures, and their cells. -/
import Derived.Test.YtocipeididkllaaBase
namespace Go.Proofs.Ytocipeididkllaa
set_option linter.unusedSimpArgs false
set_option linter.unusedVariables false
structure SChange where
  Kind : Int
  Name : ByteArray
  Val : Int
def SChange.cells (x : SChange) : List Value := [.int .i64 x.Kind, .string x.Name, .int .i64 x.Val]
def SChange.fits (x : SChange) : Prop := -9223372036854775808 ≤ x.Kind ∧ x.Kind ≤ 9223372036854775807 ∧ x.Name.size ≤ 9223372036854775807 ∧ -9223372036854775808 ≤ x.Val ∧ x.Val ≤ 9223372036854775807
theorem SChange.sizes {x : SChange} (h : x.fits) : x.Name.size ≤ 9223372036854775807 := by unfold SChange.fits at h; omega
theorem lenChange {l : List Value} (h : l.length = 3) : ∃ c0 c1 c2, l = [c0, c1, c2] := match l, h with | [c0, c1, c2], _ => ⟨c0, c1, c2, rfl⟩
theorem SChange.size (x : SChange) : x.cells.length = 3 := rfl
theorem SChange.elem {w : World} {b k : Nat} {xs : List SChange} (A : Arr SChange.cells 3 w b xs) (hk : k < xs.length) : w.cell? ⟨b, k * 3, none⟩ = some (.int .i64 xs[k].Kind) ∧ w.cell? ⟨b, k * 3 + 1, none⟩ = some (.string xs[k].Name) ∧ w.cell? ⟨b, k * 3 + 2, none⟩ = some (.int .i64 xs[k].Val) := ⟨A.get hk 0 _ rfl rfl, A.get hk 1 _ rfl rfl, A.get hk 2 _ rfl rfl⟩
theorem SChange.elems {w : World} {b k : Nat} {xs : List SChange} (A : Arr SChange.cells 3 w b xs) (hk : k < xs.length) : (∀ p : Past w, p.w.cell? ⟨b, k * 3, none⟩ = some (.int .i64 xs[k].Kind)) ∧ (∀ p : Past w, p.w.cell? ⟨b, k * 3 + 1, none⟩ = some (.string xs[k].Name)) ∧ (∀ p : Past w, p.w.cell? ⟨b, k * 3 + 2, none⟩ = some (.int .i64 xs[k].Val)) := ⟨Past.cell (A.get hk 0 _ rfl rfl) A.1, Past.cell (A.get hk 1 _ rfl rfl) A.1, Past.cell (A.get hk 2 _ rfl rfl) A.1⟩
theorem SChange.past {w : World} {g : Nat} {x : SChange} (h : ∀ j, w.cell? ⟨g, j, none⟩ = (#[.int .i64 x.Kind, .string x.Name, .int .i64 x.Val] : Array Value)[j]?) (hg : g < w.heap.size) : (∀ p : Past w, p.w.cell? ⟨g, 0, none⟩ = some (.int .i64 x.Kind)) ∧ (∀ p : Past w, p.w.cell? ⟨g, 1, none⟩ = some (.string x.Name)) ∧ (∀ p : Past w, p.w.cell? ⟨g, 2, none⟩ = some (.int .i64 x.Val)) := ⟨Past.cell (h 0) hg, Past.cell (h 1) hg, Past.cell (h 2) hg⟩
theorem SChange.arg {w : World} {b o k : Nat} {xs : List SChange} (A : ArgC SChange.cells 3 w b o xs) (hk : k < xs.length) : w.cell? ⟨b, o + k * 3, none⟩ = some (.int .i64 xs[k].Kind) ∧ w.cell? ⟨b, o + k * 3 + 1, none⟩ = some (.string xs[k].Name) ∧ w.cell? ⟨b, o + k * 3 + 2, none⟩ = some (.int .i64 xs[k].Val) := ⟨A.2 k hk 0 _ rfl, A.2 k hk 1 _ rfl, A.2 k hk 2 _ rfl⟩

structure SSetting where
  Name : ByteArray
  Val : Int
def SSetting.cells (x : SSetting) : List Value := [.string x.Name, .int .i64 x.Val]
def SSetting.fits (x : SSetting) : Prop := x.Name.size ≤ 9223372036854775807 ∧ -9223372036854775808 ≤ x.Val ∧ x.Val ≤ 9223372036854775807
theorem SSetting.sizes {x : SSetting} (h : x.fits) : x.Name.size ≤ 9223372036854775807 := by unfold SSetting.fits at h; omega
theorem lenSetting {l : List Value} (h : l.length = 2) : ∃ c0 c1, l = [c0, c1] := match l, h with | [c0, c1], _ => ⟨c0, c1, rfl⟩
theorem SSetting.size (x : SSetting) : x.cells.length = 2 := rfl
theorem SSetting.elem {w : World} {b k : Nat} {xs : List SSetting} (A : Arr SSetting.cells 2 w b xs) (hk : k < xs.length) : w.cell? ⟨b, k * 2, none⟩ = some (.string xs[k].Name) ∧ w.cell? ⟨b, k * 2 + 1, none⟩ = some (.int .i64 xs[k].Val) := ⟨A.get hk 0 _ rfl rfl, A.get hk 1 _ rfl rfl⟩
theorem SSetting.elems {w : World} {b k : Nat} {xs : List SSetting} (A : Arr SSetting.cells 2 w b xs) (hk : k < xs.length) : (∀ p : Past w, p.w.cell? ⟨b, k * 2, none⟩ = some (.string xs[k].Name)) ∧ (∀ p : Past w, p.w.cell? ⟨b, k * 2 + 1, none⟩ = some (.int .i64 xs[k].Val)) := ⟨Past.cell (A.get hk 0 _ rfl rfl) A.1, Past.cell (A.get hk 1 _ rfl rfl) A.1⟩
theorem SSetting.past {w : World} {g : Nat} {x : SSetting} (h : ∀ j, w.cell? ⟨g, j, none⟩ = (#[.string x.Name, .int .i64 x.Val] : Array Value)[j]?) (hg : g < w.heap.size) : (∀ p : Past w, p.w.cell? ⟨g, 0, none⟩ = some (.string x.Name)) ∧ (∀ p : Past w, p.w.cell? ⟨g, 1, none⟩ = some (.int .i64 x.Val)) := ⟨Past.cell (h 0) hg, Past.cell (h 1) hg⟩
theorem SSetting.arg {w : World} {b o k : Nat} {xs : List SSetting} (A : ArgC SSetting.cells 2 w b o xs) (hk : k < xs.length) : w.cell? ⟨b, o + k * 2, none⟩ = some (.string xs[k].Name) ∧ w.cell? ⟨b, o + k * 2 + 1, none⟩ = some (.int .i64 xs[k].Val) := ⟨A.2 k hk 0 _ rfl, A.2 k hk 1 _ rfl⟩

structure SShot where
  Id : ByteArray
  From : Int
  Until : Int
  Minutes : Int
  Gain : Int
def SShot.cells (x : SShot) : List Value := [.string x.Id, .int .i64 x.From, .int .i64 x.Until, .int .i64 x.Minutes, .int .i64 x.Gain]
def SShot.fits (x : SShot) : Prop := x.Id.size ≤ 9223372036854775807 ∧ -9223372036854775808 ≤ x.From ∧ x.From ≤ 9223372036854775807 ∧ -9223372036854775808 ≤ x.Until ∧ x.Until ≤ 9223372036854775807 ∧ -9223372036854775808 ≤ x.Minutes ∧ x.Minutes ≤ 9223372036854775807 ∧ -9223372036854775808 ≤ x.Gain ∧ x.Gain ≤ 9223372036854775807
theorem SShot.sizes {x : SShot} (h : x.fits) : x.Id.size ≤ 9223372036854775807 := by unfold SShot.fits at h; omega
theorem lenShot {l : List Value} (h : l.length = 5) : ∃ c0 c1 c2 c3 c4, l = [c0, c1, c2, c3, c4] := match l, h with | [c0, c1, c2, c3, c4], _ => ⟨c0, c1, c2, c3, c4, rfl⟩
theorem SShot.size (x : SShot) : x.cells.length = 5 := rfl
theorem SShot.elem {w : World} {b k : Nat} {xs : List SShot} (A : Arr SShot.cells 5 w b xs) (hk : k < xs.length) : w.cell? ⟨b, k * 5, none⟩ = some (.string xs[k].Id) ∧ w.cell? ⟨b, k * 5 + 1, none⟩ = some (.int .i64 xs[k].From) ∧ w.cell? ⟨b, k * 5 + 2, none⟩ = some (.int .i64 xs[k].Until) ∧ w.cell? ⟨b, k * 5 + 3, none⟩ = some (.int .i64 xs[k].Minutes) ∧ w.cell? ⟨b, k * 5 + 4, none⟩ = some (.int .i64 xs[k].Gain) := ⟨A.get hk 0 _ rfl rfl, A.get hk 1 _ rfl rfl, A.get hk 2 _ rfl rfl, A.get hk 3 _ rfl rfl, A.get hk 4 _ rfl rfl⟩
theorem SShot.elems {w : World} {b k : Nat} {xs : List SShot} (A : Arr SShot.cells 5 w b xs) (hk : k < xs.length) : (∀ p : Past w, p.w.cell? ⟨b, k * 5, none⟩ = some (.string xs[k].Id)) ∧ (∀ p : Past w, p.w.cell? ⟨b, k * 5 + 1, none⟩ = some (.int .i64 xs[k].From)) ∧ (∀ p : Past w, p.w.cell? ⟨b, k * 5 + 2, none⟩ = some (.int .i64 xs[k].Until)) ∧ (∀ p : Past w, p.w.cell? ⟨b, k * 5 + 3, none⟩ = some (.int .i64 xs[k].Minutes)) ∧ (∀ p : Past w, p.w.cell? ⟨b, k * 5 + 4, none⟩ = some (.int .i64 xs[k].Gain)) := ⟨Past.cell (A.get hk 0 _ rfl rfl) A.1, Past.cell (A.get hk 1 _ rfl rfl) A.1, Past.cell (A.get hk 2 _ rfl rfl) A.1, Past.cell (A.get hk 3 _ rfl rfl) A.1, Past.cell (A.get hk 4 _ rfl rfl) A.1⟩
theorem SShot.past {w : World} {g : Nat} {x : SShot} (h : ∀ j, w.cell? ⟨g, j, none⟩ = (#[.string x.Id, .int .i64 x.From, .int .i64 x.Until, .int .i64 x.Minutes, .int .i64 x.Gain] : Array Value)[j]?) (hg : g < w.heap.size) : (∀ p : Past w, p.w.cell? ⟨g, 0, none⟩ = some (.string x.Id)) ∧ (∀ p : Past w, p.w.cell? ⟨g, 1, none⟩ = some (.int .i64 x.From)) ∧ (∀ p : Past w, p.w.cell? ⟨g, 2, none⟩ = some (.int .i64 x.Until)) ∧ (∀ p : Past w, p.w.cell? ⟨g, 3, none⟩ = some (.int .i64 x.Minutes)) ∧ (∀ p : Past w, p.w.cell? ⟨g, 4, none⟩ = some (.int .i64 x.Gain)) := ⟨Past.cell (h 0) hg, Past.cell (h 1) hg, Past.cell (h 2) hg, Past.cell (h 3) hg, Past.cell (h 4) hg⟩
theorem SShot.arg {w : World} {b o k : Nat} {xs : List SShot} (A : ArgC SShot.cells 5 w b o xs) (hk : k < xs.length) : w.cell? ⟨b, o + k * 5, none⟩ = some (.string xs[k].Id) ∧ w.cell? ⟨b, o + k * 5 + 1, none⟩ = some (.int .i64 xs[k].From) ∧ w.cell? ⟨b, o + k * 5 + 2, none⟩ = some (.int .i64 xs[k].Until) ∧ w.cell? ⟨b, o + k * 5 + 3, none⟩ = some (.int .i64 xs[k].Minutes) ∧ w.cell? ⟨b, o + k * 5 + 4, none⟩ = some (.int .i64 xs[k].Gain) := ⟨A.2 k hk 0 _ rfl, A.2 k hk 1 _ rfl, A.2 k hk 2 _ rfl, A.2 k hk 3 _ rfl, A.2 k hk 4 _ rfl⟩

end Go.Proofs.Ytocipeididkllaa
