/- The structs of the program as plain Lean structures, and their cells. -/
import Derived.Test.YtfbnckgfgaddkaaBase
namespace Go.Proofs.Ytfbnckgfgaddkaa
set_option linter.unusedSimpArgs false
set_option linter.unusedVariables false
structure SGroup where
  Id : ByteArray
  People : Int
  Guides : Int
  Beacons : Int
  Shovels : Int
  Probes : Int
  Skill : Int
def SGroup.cells (x : SGroup) : List Value := [.string x.Id, .int .i64 x.People, .int .i64 x.Guides, .int .i64 x.Beacons, .int .i64 x.Shovels, .int .i64 x.Probes, .int .i64 x.Skill]
def SGroup.fits (x : SGroup) : Prop := x.Id.size ≤ 9223372036854775807 ∧ -9223372036854775808 ≤ x.People ∧ x.People ≤ 9223372036854775807 ∧ -9223372036854775808 ≤ x.Guides ∧ x.Guides ≤ 9223372036854775807 ∧ -9223372036854775808 ≤ x.Beacons ∧ x.Beacons ≤ 9223372036854775807 ∧ -9223372036854775808 ≤ x.Shovels ∧ x.Shovels ≤ 9223372036854775807 ∧ -9223372036854775808 ≤ x.Probes ∧ x.Probes ≤ 9223372036854775807 ∧ -9223372036854775808 ≤ x.Skill ∧ x.Skill ≤ 9223372036854775807
theorem SGroup.sizes {x : SGroup} (h : x.fits) : x.Id.size ≤ 9223372036854775807 := by unfold SGroup.fits at h; omega
theorem lenGroup {l : List Value} (h : l.length = 7) : ∃ c0 c1 c2 c3 c4 c5 c6, l = [c0, c1, c2, c3, c4, c5, c6] := match l, h with | [c0, c1, c2, c3, c4, c5, c6], _ => ⟨c0, c1, c2, c3, c4, c5, c6, rfl⟩
theorem SGroup.size (x : SGroup) : x.cells.length = 7 := rfl
theorem SGroup.elem {w : World} {b k : Nat} {xs : List SGroup} (A : Arr SGroup.cells 7 w b xs) (hk : k < xs.length) : w.cell? ⟨b, k * 7, none⟩ = some (.string xs[k].Id) ∧ w.cell? ⟨b, k * 7 + 1, none⟩ = some (.int .i64 xs[k].People) ∧ w.cell? ⟨b, k * 7 + 2, none⟩ = some (.int .i64 xs[k].Guides) ∧ w.cell? ⟨b, k * 7 + 3, none⟩ = some (.int .i64 xs[k].Beacons) ∧ w.cell? ⟨b, k * 7 + 4, none⟩ = some (.int .i64 xs[k].Shovels) ∧ w.cell? ⟨b, k * 7 + 5, none⟩ = some (.int .i64 xs[k].Probes) ∧ w.cell? ⟨b, k * 7 + 6, none⟩ = some (.int .i64 xs[k].Skill) := ⟨A.get hk 0 _ rfl rfl, A.get hk 1 _ rfl rfl, A.get hk 2 _ rfl rfl, A.get hk 3 _ rfl rfl, A.get hk 4 _ rfl rfl, A.get hk 5 _ rfl rfl, A.get hk 6 _ rfl rfl⟩
theorem SGroup.elems {w : World} {b k : Nat} {xs : List SGroup} (A : Arr SGroup.cells 7 w b xs) (hk : k < xs.length) : (∀ p : Past w, p.w.cell? ⟨b, k * 7, none⟩ = some (.string xs[k].Id)) ∧ (∀ p : Past w, p.w.cell? ⟨b, k * 7 + 1, none⟩ = some (.int .i64 xs[k].People)) ∧ (∀ p : Past w, p.w.cell? ⟨b, k * 7 + 2, none⟩ = some (.int .i64 xs[k].Guides)) ∧ (∀ p : Past w, p.w.cell? ⟨b, k * 7 + 3, none⟩ = some (.int .i64 xs[k].Beacons)) ∧ (∀ p : Past w, p.w.cell? ⟨b, k * 7 + 4, none⟩ = some (.int .i64 xs[k].Shovels)) ∧ (∀ p : Past w, p.w.cell? ⟨b, k * 7 + 5, none⟩ = some (.int .i64 xs[k].Probes)) ∧ (∀ p : Past w, p.w.cell? ⟨b, k * 7 + 6, none⟩ = some (.int .i64 xs[k].Skill)) := ⟨Past.cell (A.get hk 0 _ rfl rfl) A.1, Past.cell (A.get hk 1 _ rfl rfl) A.1, Past.cell (A.get hk 2 _ rfl rfl) A.1, Past.cell (A.get hk 3 _ rfl rfl) A.1, Past.cell (A.get hk 4 _ rfl rfl) A.1, Past.cell (A.get hk 5 _ rfl rfl) A.1, Past.cell (A.get hk 6 _ rfl rfl) A.1⟩
theorem SGroup.past {w : World} {g : Nat} {x : SGroup} (h : ∀ j, w.cell? ⟨g, j, none⟩ = (#[.string x.Id, .int .i64 x.People, .int .i64 x.Guides, .int .i64 x.Beacons, .int .i64 x.Shovels, .int .i64 x.Probes, .int .i64 x.Skill] : Array Value)[j]?) (hg : g < w.heap.size) : (∀ p : Past w, p.w.cell? ⟨g, 0, none⟩ = some (.string x.Id)) ∧ (∀ p : Past w, p.w.cell? ⟨g, 1, none⟩ = some (.int .i64 x.People)) ∧ (∀ p : Past w, p.w.cell? ⟨g, 2, none⟩ = some (.int .i64 x.Guides)) ∧ (∀ p : Past w, p.w.cell? ⟨g, 3, none⟩ = some (.int .i64 x.Beacons)) ∧ (∀ p : Past w, p.w.cell? ⟨g, 4, none⟩ = some (.int .i64 x.Shovels)) ∧ (∀ p : Past w, p.w.cell? ⟨g, 5, none⟩ = some (.int .i64 x.Probes)) ∧ (∀ p : Past w, p.w.cell? ⟨g, 6, none⟩ = some (.int .i64 x.Skill)) := ⟨Past.cell (h 0) hg, Past.cell (h 1) hg, Past.cell (h 2) hg, Past.cell (h 3) hg, Past.cell (h 4) hg, Past.cell (h 5) hg, Past.cell (h 6) hg⟩
theorem SGroup.arg {w : World} {b o k : Nat} {xs : List SGroup} (A : ArgC SGroup.cells 7 w b o xs) (hk : k < xs.length) : w.cell? ⟨b, o + k * 7, none⟩ = some (.string xs[k].Id) ∧ w.cell? ⟨b, o + k * 7 + 1, none⟩ = some (.int .i64 xs[k].People) ∧ w.cell? ⟨b, o + k * 7 + 2, none⟩ = some (.int .i64 xs[k].Guides) ∧ w.cell? ⟨b, o + k * 7 + 3, none⟩ = some (.int .i64 xs[k].Beacons) ∧ w.cell? ⟨b, o + k * 7 + 4, none⟩ = some (.int .i64 xs[k].Shovels) ∧ w.cell? ⟨b, o + k * 7 + 5, none⟩ = some (.int .i64 xs[k].Probes) ∧ w.cell? ⟨b, o + k * 7 + 6, none⟩ = some (.int .i64 xs[k].Skill) := ⟨A.2 k hk 0 _ rfl, A.2 k hk 1 _ rfl, A.2 k hk 2 _ rfl, A.2 k hk 3 _ rfl, A.2 k hk 4 _ rfl, A.2 k hk 5 _ rfl, A.2 k hk 6 _ rfl⟩

structure SSetting where
  Name : ByteArray
  Val : Int
def SSetting.cells (x : SSetting) : List Value := [.string x.Name, .int .i64 x.Val]
def SSetting.fits (x : SSetting) : Prop := x.Name.size ≤ 9223372036854775807 ∧ -9223372036854775808 ≤ x.Val ∧ x.Val ≤ 9223372036854775807
theorem SSetting.sizes {x : SSetting} (h : x.fits) : x.Name.size ≤ 9223372036854775807 := by unfold SSetting.fits at h; omega
theorem lenSetting {l : List Value} (h : l.length = 2) : ∃ c0 c1, l = [c0, c1] := match l, h with | [c0, c1], _ => ⟨c0, c1, rfl⟩
theorem SSetting.size (x : SSetting) : x.cells.length = 2 := rfl
theorem SSetting.elem {w : World} {b k : Nat} {xs : List SSetting} (A : Arr SSetting.cells 2 w b xs) (hk : k < xs.length) : w.cell? ⟨b, k * 2, none⟩ = some (.string xs[k].Name) ∧ w.cell? ⟨b, k * 2 + 1, none⟩ = some (.int .i64 xs[k].Val) := ⟨A.get hk 0 _ rfl rfl, A.get hk 1 _ rfl rfl⟩
theorem SSetting.elems {w : World} {b k : Nat} {xs : List SSetting} (A : Arr SSetting.cells 2 w b xs) (hk : k < xs.length) : (∀ p : Past w, p.w.cell? ⟨b, k * 2, none⟩ = some (.string xs[k].Name)) ∧ (∀ p : Past w, p.w.cell? ⟨b, k * 2 + 1, none⟩ = some (.int .i64 xs[k].Val)) := ⟨Past.cell (A.get hk 0 _ rfl rfl) A.1, Past.cell (A.get hk 1 _ rfl rfl) A.1⟩
theorem SSetting.past {w : World} {g : Nat} {x : SSetting} (h : ∀ j, w.cell? ⟨g, j, none⟩ = (#[.string x.Name, .int .i64 x.Val] : Array Value)[j]?) (hg : g < w.heap.size) : (∀ p : Past w, p.w.cell? ⟨g, 0, none⟩ = some (.string x.Name)) ∧ (∀ p : Past w, p.w.cell? ⟨g, 1, none⟩ = some (.int .i64 x.Val)) := ⟨Past.cell (h 0) hg, Past.cell (h 1) hg⟩
theorem SSetting.arg {w : World} {b o k : Nat} {xs : List SSetting} (A : ArgC SSetting.cells 2 w b o xs) (hk : k < xs.length) : w.cell? ⟨b, o + k * 2, none⟩ = some (.string xs[k].Name) ∧ w.cell? ⟨b, o + k * 2 + 1, none⟩ = some (.int .i64 xs[k].Val) := ⟨A.2 k hk 0 _ rfl, A.2 k hk 1 _ rfl⟩

end Go.Proofs.Ytfbnckgfgaddkaa
