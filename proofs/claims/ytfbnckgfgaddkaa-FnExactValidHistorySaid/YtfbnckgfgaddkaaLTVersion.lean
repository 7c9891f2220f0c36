/- The helpers of the laws package for versions (sizes, copies, comparisons): a version holds a slice of settings. No condition beyond the theorems own. -/
import Derived.Test.YtfbnckgfgaddkaaChecked
import Derived.Test.YtfbnckgfgaddkaaApp
import Derived.Test.YtfbnckgfgaddkaaLTSetting
import Derived.Deep.CutRange
namespace Go.Proofs.Ytfbnckgfgaddkaa
set_option linter.unusedSimpArgs false
set_option linter.unusedVariables false
open Go.RowKit
set_option maxHeartbeats 400000
structure SVer where
  Num : Int
  Par : Int
  Memo : ByteArray
  A : Option Addr
  n : Nat
  c : Nat
def SVer.cells (x : SVer) : List Value := [.int .i64 x.Num, .int .i64 x.Par, .string x.Memo, .slice x.A x.n x.c]
theorem SVer.elem {w : World} {b k : Nat} {xs : List SVer} (A : Arr SVer.cells 4 w b xs) (hk : k < xs.length) : w.cell? ⟨b, k * 4, none⟩ = some (.int .i64 xs[k].Num) ∧ w.cell? ⟨b, k * 4 + 1, none⟩ = some (.int .i64 xs[k].Par) ∧ w.cell? ⟨b, k * 4 + 2, none⟩ = some (.string xs[k].Memo) ∧ w.cell? ⟨b, k * 4 + 3, none⟩ = some (.slice xs[k].A xs[k].n xs[k].c) :=
  ⟨A.get hk 0 _ rfl rfl, A.get hk 1 _ rfl rfl, A.get hk 2 _ rfl rfl, A.get hk 3 _ rfl rfl⟩
theorem SVer.elems {w : World} {b k : Nat} {xs : List SVer} (A : Arr SVer.cells 4 w b xs) (hk : k < xs.length) : (∀ p : Past w, p.w.cell? ⟨b, k * 4, none⟩ = some (.int .i64 xs[k].Num)) ∧ (∀ p : Past w, p.w.cell? ⟨b, k * 4 + 1, none⟩ = some (.int .i64 xs[k].Par)) ∧ (∀ p : Past w, p.w.cell? ⟨b, k * 4 + 2, none⟩ = some (.string xs[k].Memo)) ∧ (∀ p : Past w, p.w.cell? ⟨b, k * 4 + 3, none⟩ = some (.slice xs[k].A xs[k].n xs[k].c)) :=
  ⟨Past.cell (A.get hk 0 _ rfl rfl) A.1, Past.cell (A.get hk 1 _ rfl rfl) A.1, Past.cell (A.get hk 2 _ rfl rfl) A.1, Past.cell (A.get hk 3 _ rfl rfl) A.1⟩
theorem SVer.arg {w : World} {b o k : Nat} {xs : List SVer} (A : ArgC SVer.cells 4 w b o xs) (hk : k < xs.length) : w.cell? ⟨b, o + k * 4, none⟩ = some (.int .i64 xs[k].Num) ∧ w.cell? ⟨b, o + k * 4 + 1, none⟩ = some (.int .i64 xs[k].Par) ∧ w.cell? ⟨b, o + k * 4 + 2, none⟩ = some (.string xs[k].Memo) ∧ w.cell? ⟨b, o + k * 4 + 3, none⟩ = some (.slice xs[k].A xs[k].n xs[k].c) :=
  ⟨A.2 k hk 0 _ rfl, A.2 k hk 1 _ rfl, A.2 k hk 2 _ rfl, A.2 k hk 3 _ rfl⟩
/-- the states of an argument's versions -/
def VCon (w : World) (hs : List SVer) (S : Nat → List SSetting) : Prop := ∀ i (h : i < hs.length), (S i).length = hs[i].n ∧ ArgS SSetting.cells 2 w hs[i].A (S i)
theorem VCon.below {w w' : World} {hs : List SVer} {S : Nat → List SSetting} (h : VCon w hs S) (hb : Below w.heap.size w w') : VCon w' hs S := fun i hi => ⟨(h i hi).1, (h i hi).2.below hb⟩
/-- the states of a copy's versions, each in a block of its own -/
def StC (w : World) (x : SVer) (ss : List SSetting) : Prop := x.n = ss.length ∧ ∃ g, x.A = some ⟨g, 0, none⟩ ∧ Arr SSetting.cells 2 w g ss
theorem StC.below {w w' : World} {x : SVer} {ss : List SSetting} (h : StC w x ss) (hb : Below w.heap.size w w') : StC w' x ss := by
  obtain ⟨h1, g, h2, h3⟩ := h
  exact ⟨h1, g, h2, h3.below hb⟩
def VCp (w : World) (hs : List SVer) (S : Nat → List SSetting) : Prop := ∀ i (h : i < hs.length), StC w hs[i] (S i)
theorem VCp.below {w w' : World} {hs : List SVer} {S : Nat → List SSetting} (h : VCp w hs S) (hb : Below w.heap.size w w') : VCp w' hs S := fun i hi => (h i hi).below hb
def samePV (x y : SVer) : Prop := y.Num = x.Num ∧ y.Par = x.Par ∧ y.Memo = x.Memo
def vSame (hs hs' : List SVer) : Prop := hs'.length = hs.length ∧ ∀ i (h : i < hs.length) (h' : i < hs'.length), samePV hs[i] hs'[i]
theorem vSame.trans' {a b c : List SVer} (h : vSame a b) (h2 : vSame a c) : vSame b c := by
  refine ⟨by rw [h2.1, h.1], fun i hb hc => ?_⟩
  have ha : i < a.length := by rw [← h.1]; exact hb
  obtain ⟨e1, e2, e3⟩ := h.2 i ha hb
  obtain ⟨f1, f2, f3⟩ := h2.2 i ha hc
  exact ⟨by rw [f1, e1], by rw [f2, e2], by rw [f3, e3]⟩
theorem szVersion_any (num par : Int) (memo : ByteArray) (A : Option Addr) (c : Nat) (ss : List SSetting) (left : Int) (w : World) (h : ArgS SSetting.cells 2 w A ss) (hf : ∀ i (h : i < ss.length), ss[i].Name.size ≤ 9223372036854775807) (hn : ss.length ≤ 9223372036854775807) (hm : memo.size ≤ 9223372036854775807) (h0 : 0 ≤ left) (h1 : left ≤ 1048576) :
    Calls Try.prog 17 #[.agg #[.int .i64 num, .int .i64 par, .string memo, .slice A ss.length c], .int .i64 left] w fun e w' => (∃ r : Int, e = .returned (.int .i64 r) ∧ -1 ≤ r ∧ r ≤ left ∧ (0 ≤ r → (ss.length : Int) ≤ left ∧ (memo.size : Int) ≤ left)) ∧ Below w.heap.size w w' := by
  have H := Lib.hid h
  have HF := Lib.hid hf
  clear h hf
  by_cases hb : left < (memo.size : Int)
  · go_enter Try.func17, Try.ntmps17
    go_wp2
    go_ret
    exact ⟨⟨_, rfl, by omega, by omega, by omega⟩, (by repeat (first | (with_reducible assumption) | (with_reducible exact Below.refl _ _) | (with_reducible refine Bel.alloc ?_ _) | (with_reducible refine Below.drew ?_) | (with_reducible refine Bel.drewN ?_ _) | (with_reducible refine Bel.setCell ?_ (by (try simp) <;> omega) _) | (with_reducible refine Bel.trans ?_ (by assumption))))⟩
  · go_enter Try.func17, Try.ntmps17
    go_wp2_with fail
    refine calls_box_out ?_
    intro W hbw B1
    refine (szSettingS_any A c ss _ _ (H.out.below hbw) HF.out hn (by omega) (by omega)).mono ?_
    rintro e w1 ⟨⟨r, rfl, hr1, hr2, hr3⟩, hb1⟩
    by_cases hr : r < 0
    · go_wp2
      go_ret
      exact ⟨⟨_, rfl, by omega, by omega, by omega⟩, Bel.trans hbw hb1⟩
    · have hr4 := (hr3 (by omega)).1
      go_wp2
      go_ret
      exact ⟨⟨_, rfl, by omega, by omega, fun _ => ⟨by omega, by omega⟩⟩, Bel.trans hbw hb1⟩
theorem szVersionS_any (A : Option Addr) (c : Nat) (hs : List SVer) (S : Nat → List SSetting) (left : Int) (w : World) (h : ArgS SVer.cells 4 w A hs) (hS : VCon w hs S) (hf : ∀ i (h : i < hs.length), hs[i].Memo.size ≤ 9223372036854775807 ∧ (S i).length ≤ 9223372036854775807 ∧ ∀ j (h : j < (S i).length), (S i)[j].Name.size ≤ 9223372036854775807) (hn : hs.length ≤ 9223372036854775807) (h0 : 0 ≤ left) (h1 : left ≤ 1048576) :
    Calls Try.prog 5 #[.slice A hs.length c, .int .i64 left] w fun e w' => (∃ r : Int, e = .returned (.int .i64 r) ∧ -1 ≤ r ∧ r ≤ left ∧ (0 ≤ r → (hs.length : Int) ≤ left ∧ ∀ i (h : i < hs.length), ((S i).length : Int) ≤ left ∧ (hs[i].Memo.size : Int) ≤ left)) ∧ Below w.heap.size w w' := by
  have H := Lib.hid h
  have HS := Lib.hid hS
  have HF := Lib.hid hf
  clear h hf hS
  by_cases hb : left < (hs.length : Int)
  · go_enter Try.func5, Try.ntmps5
    go_wp2
    go_ret
    exact ⟨⟨_, rfl, by omega, by omega, by omega⟩, (by repeat (first | (with_reducible assumption) | (with_reducible exact Below.refl _ _) | (with_reducible refine Bel.alloc ?_ _) | (with_reducible refine Below.drew ?_) | (with_reducible refine Bel.drewN ?_ _) | (with_reducible refine Bel.setCell ?_ (by (try simp) <;> omega) _) | (with_reducible refine Bel.trans ?_ (by assumption))))⟩
  · go_enter Try.func5, Try.ntmps5
    go_wp2_with fail
    go_loopw [1, 5] (fun l i wr => ∃ (k : Nat) (r : Int), k ≤ hs.length ∧ i = .int .i64 k ∧ l = .int .i64 r ∧ 0 ≤ r ∧ r ≤ left ∧ (∀ i (h : i < hs.length), i < k → ((S i).length : Int) ≤ left ∧ (hs[i].Memo.size : Int) ≤ left) ∧ Below w.heap.size w wr) (fun _ i wr => hs.length - (intOf i).toNat)
    case atStart => exact ⟨0, _, by omega, rfl, rfl, by omega, by omega, fun i _ h0 => absurd h0 (by omega), (by repeat (first | (with_reducible assumption) | (with_reducible exact Below.refl _ _) | (with_reducible refine Bel.alloc ?_ _) | (with_reducible refine Below.drew ?_) | (with_reducible refine Bel.drewN ?_ _) | (with_reducible refine Bel.setCell ?_ (by (try simp) <;> omega) _) | (with_reducible refine Bel.trans ?_ (by assumption))))⟩
    case round =>
      obtain ⟨k, r, hk, rfl, rfl, hr0, hr1, hall, hbel⟩ := hrel
      have HA := Lib.hid hall
      clear hall
      by_cases hlt : k < hs.length
      · obtain ⟨b, o, rfl, hc⟩ := H.out (by omega)
        have hb := hc.1
        obtain ⟨e0, e1, e2, e3⟩ := SVer.arg (hc.below hbel hb) hlt
        obtain ⟨q1, q2, q3⟩ := HF.out k hlt
        have hss := (HS.out k hlt).1
        have hsa := (HS.out k hlt).2
        rw [← hss] at e3
        have HSA := Lib.hid (hsa.below hbel)
        have Q3 := Lib.hid q3
        clear hc H hss hsa q3
        go_wp2_with (go_at_call 17; refine (szVersion_any _ _ _ _ _ (S k) r _ HSA.out Q3.out q2 q1 (by omega) (by omega)).mono ?_; rintro e w1 ⟨⟨r1, rfl, hr2, hr3, hr4⟩, hb1⟩)
        · go_ret
          exact ⟨⟨_, rfl, by omega, by omega, by omega⟩, Bel.trans hbel hb1⟩
        · go_roundw
          case rel => exact ⟨k + 1, r1, by omega, by go_num, rfl, by omega, by omega, fun i hi hik => by by_cases e : i = k; (subst e; have := hr4 (by omega); omega); exact HA.out i hi (by omega), Bel.trans hbel hb1⟩
          case measure => simp [intOf]; omega
      · obtain rfl : k = hs.length := by omega
        go_wp2
        go_ret
        exact ⟨⟨_, rfl, by omega, by omega, fun _ => ⟨by omega, fun i hi => HA.out i hi hi⟩⟩, hbel⟩
theorem Arr.far {α : Type} {cs : α → List Value} {sz : Nat} {w : World} {g : Nat} {xs : List α} (A : Arr cs sz w g xs) {p : Addr} (hne : g ≠ p.block) (u : Value) : Arr cs sz (w.setCell p u) g xs :=
  ⟨by simpa [World.setCell] using A.1, fun i hi j v hv => (World.cell?_of_block (Below.heap_setCell w p u g (fun e => hne e))).trans (A.2 i hi j v hv)⟩
theorem Arr.farAll {α : Type} {cs : α → List Value} {sz : Nat} {g b : Nat} {xs : List α} (hne : g ≠ b) (l : List Value) : ∀ (o : Nat) {w : World}, Arr cs sz w g xs → Arr cs sz (Go.Proofs.Ytfbnckgfgaddkaa.setAll w b o l) g xs := by
  induction l with
  | nil => intro o w A; exact A
  | cons v l ih => intro o w A; exact ih (o + 1) (A.far (p := ⟨b, o, none⟩) hne v)
theorem Part.congr {α : Type} {cs : α → List Value} {sz : Nat} {t : TypeId} {w : World} {g k : Nat} {xs ys : List α} (h : Part cs sz t w g xs k) (hl : ys.length = xs.length) (he : ∀ i (h1 : i < xs.length) (h2 : i < ys.length), i < k → ys[i] = xs[i]) : Part cs sz t w g ys k := by
  obtain ⟨arr, h1, h2, h3⟩ := h
  refine ⟨arr, h1, by rw [hl]; exact h2, fun i hi hik j v hv => ?_⟩
  rw [he i (by omega) hi hik] at hv
  exact h3 i (by omega) hik j v hv
theorem toVersion_any (num par : Int) (memo : ByteArray) (A : Option Addr) (c : Nat) (ss : List SSetting) (w : World) (h : ArgS SSetting.cells 2 w A ss) (hn : ss.length ≤ 1048576) :
    Calls Try.prog 19 #[.agg #[.int .i64 num, .int .i64 par, .string memo, .slice A ss.length c]] w fun e w' => (∃ g, e = .returned (.agg #[.int .i64 num, .int .i64 par, .string memo, .slice (some ⟨g, 0, none⟩) ss.length ss.length]) ∧ w.heap.size ≤ g ∧ Arr SSetting.cells 2 w' g ss) ∧ Below w.heap.size w w' := by
  have H := Lib.hid h
  clear h
  go_enter Try.func19, Try.ntmps19
  go_upto_region 2 with fail
  refine wp_box_out3 ?_
  intro W hbw B1 B2 B3
  have c0 : W.cell? ⟨w.heap.size, 0, none⟩ = some (.int .i64 num) := B1.cell 0
  have c1 : W.cell? ⟨w.heap.size, 1, none⟩ = some (.int .i64 par) := B1.cell 1
  have c2 : W.cell? ⟨w.heap.size, 2, none⟩ = some (.string memo) := B1.cell 2
  have c3 : W.cell? ⟨w.heap.size, 3, none⟩ = some (.slice A ss.length c) := B1.cell 3
  have e0 : W.cell? ⟨w.heap.size + 2, 0, none⟩ = some (.int .i64 0) := B3.cell 0
  have e1 : W.cell? ⟨w.heap.size + 2, 1, none⟩ = some (.int .i64 0) := B3.cell 1
  have e2 : W.cell? ⟨w.heap.size + 2, 2, none⟩ = some (.string ⟨#[]⟩) := B3.cell 2
  have e3 : W.cell? ⟨w.heap.size + 2, 3, none⟩ = some (.slice none 0 0) := B3.cell 3
  have z0 : W.frozen? ⟨w.heap.size + 2, 0, none⟩ = false := B3.free 0
  have z1 : W.frozen? ⟨w.heap.size + 2, 1, none⟩ = false := B3.free 1
  have z2 : W.frozen? ⟨w.heap.size + 2, 2, none⟩ = false := B3.free 2
  have z3 : W.frozen? ⟨w.heap.size + 2, 3, none⟩ = false := B3.free 3
  go_wp2_with fail
  have B3 := ((B3.set 0 (.int .i64 num)).set 1 (.int .i64 par)).set 2 (.string memo)
  have hn1 : w.heap.size + 1 ≠ w.heap.size + 2 := by omega
  have B2 := ((B2.far (p := ⟨w.heap.size + 2, 0, none⟩) hn1 (.int .i64 num)).far (p := ⟨w.heap.size + 2, 1, none⟩) hn1 (.int .i64 par)).far (p := ⟨w.heap.size + 2, 2, none⟩) hn1 (.string memo)
  have hle : w.heap.size ≤ w.heap.size + 2 := by omega
  have hbw2 := Bel.setCell (p := ⟨w.heap.size + 2, 2, none⟩) (Bel.setCell (p := ⟨w.heap.size + 2, 1, none⟩) (Bel.setCell (p := ⟨w.heap.size + 2, 0, none⟩) hbw hle (.int .i64 num)) hle (.int .i64 par)) hle (.string memo)
  clear c0 c1 c2 c3 e0 e1 e2 e3 z0 z1 z2 z3 B1
  generalize (((W.setCell ⟨w.heap.size + 2, 0, none⟩ (.int .i64 num)).setCell ⟨w.heap.size + 2, 1, none⟩ (.int .i64 par)).setCell ⟨w.heap.size + 2, 2, none⟩ (.string memo)) = W2 at *
  refine (toSettingS_any A c ss _ (H.out.below hbw2) hn).mono ?_
  rintro e w3 ⟨rfl, hb3, O⟩
  have hl2 := B3.lt
  have B2 := B2.below hb3
  have B3 := B3.below hb3
  have hbw3 := Bel.trans hbw2 hb3
  have hsz2 := hbw2.size
  have OA := O.arr
  have HOA := Lib.hid OA
  have f0 : w3.cell? ⟨w.heap.size + 2, 0, none⟩ = some (.int .i64 num) := B3.cell 0
  have f1 : w3.cell? ⟨w.heap.size + 2, 1, none⟩ = some (.int .i64 par) := B3.cell 1
  have f2 : w3.cell? ⟨w.heap.size + 2, 2, none⟩ = some (.string memo) := B3.cell 2
  have f3 : w3.cell? ⟨w.heap.size + 2, 3, none⟩ = some (.slice none 0 0) := B3.cell 3
  have y0 : w3.frozen? ⟨w.heap.size + 2, 0, none⟩ = false := B3.free 0
  have y1 : w3.frozen? ⟨w.heap.size + 2, 1, none⟩ = false := B3.free 1
  have y2 : w3.frozen? ⟨w.heap.size + 2, 2, none⟩ = false := B3.free 2
  have y3 : w3.frozen? ⟨w.heap.size + 2, 3, none⟩ = false := B3.free 3
  have d0 : w3.cell? ⟨w.heap.size + 1, 0, none⟩ = some (.int .i64 0) := B2.cell 0
  have d1 : w3.cell? ⟨w.heap.size + 1, 1, none⟩ = some (.int .i64 0) := B2.cell 1
  have d2 : w3.cell? ⟨w.heap.size + 1, 2, none⟩ = some (.string ⟨#[]⟩) := B2.cell 2
  have d3 : w3.cell? ⟨w.heap.size + 1, 3, none⟩ = some (.slice none 0 0) := B2.cell 3
  have x0 : w3.frozen? ⟨w.heap.size + 1, 0, none⟩ = false := B2.free 0
  have x1 : w3.frozen? ⟨w.heap.size + 1, 1, none⟩ = false := B2.free 1
  have x2 : w3.frozen? ⟨w.heap.size + 1, 2, none⟩ = false := B2.free 2
  have x3 : w3.frozen? ⟨w.heap.size + 1, 3, none⟩ = false := B2.free 3
  clear B2 B3 hb3 O OA hbw hbw2
  go_wp2
  refine bodyPost_ret (v := .agg #[.int .i64 num, .int .i64 par, .string memo, .slice (some ⟨W2.heap.size, 0, none⟩) ss.length ss.length]) (by simp [results, Try.results19, go_sem, d0, d1, d2, d3, hn1]) rfl ?_
  have OA := HOA.out
  exact ⟨⟨W2.heap.size, rfl, hsz2, by repeat (first | (with_reducible assumption) | (with_reducible refine Arr.far ?_ (by simp; omega) _))⟩, (by repeat (first | (with_reducible assumption) | (with_reducible exact Below.refl _ _) | (with_reducible refine Bel.alloc ?_ _) | (with_reducible refine Below.drew ?_) | (with_reducible refine Bel.drewN ?_ _) | (with_reducible refine Bel.setCell ?_ (by (try simp) <;> omega) _) | (with_reducible refine Bel.trans ?_ (by assumption))))⟩
theorem toVersionS_any (A : Option Addr) (c : Nat) (hs : List SVer) (S : Nat → List SSetting) (w : World) (h : ArgS SVer.cells 4 w A hs) (hS : VCon w hs S) (hn : hs.length ≤ 1048576) (hl : ∀ i, i < hs.length → (S i).length ≤ 1048576) :
    Calls Try.prog 7 #[.slice A hs.length c] w fun e w' => (∃ hs' : List SVer, e = .returned (.slice (some ⟨w.heap.size, 0, none⟩) hs'.length hs.length) ∧ Arr SVer.cells 4 w' w.heap.size hs' ∧ VCp w' hs' S ∧ vSame hs hs') ∧ Below w.heap.size w w' := by
  have H := Lib.hid h
  have HS := Lib.hid hS
  have HL := Lib.hid hl
  clear h hS hl
  have hmk := mk_slice (P := Try.prog) 25 46 (.agg #[.int .i64 0, .int .i64 0, .string ByteArray.empty, .slice none 0 0]) 4 56 (by kernel_rfl) (by kernel_rfl) (by omega) hs.length hn
  go_enter Try.func7, Try.ntmps7
  go_wp2_with fail
  go_loopw [4] (fun i wr => ∃ (k : Nat) (ys : List SVer), k ≤ hs.length ∧ i = .int .i64 k ∧ ys.length = hs.length ∧ (∀ i (h : i < hs.length) (h' : i < ys.length), i < k → samePV hs[i] ys[i] ∧ ys[i].n = (S i).length ∧ ∃ g, ys[i].A = some ⟨g, 0, none⟩ ∧ w.heap.size < g ∧ Arr SSetting.cells 2 wr g (S i)) ∧ Below w.heap.size w wr ∧ Part SVer.cells 4 46 wr w.heap.size ys k) (fun i wr => hs.length - (intOf i).toNat)
  case atStart => exact ⟨0, hs, by omega, rfl, rfl, fun i _ _ h0 => absurd h0 (by omega), (by repeat (first | (with_reducible assumption) | (with_reducible exact Below.refl _ _) | (with_reducible refine Bel.alloc ?_ _) | (with_reducible refine Below.drew ?_) | (with_reducible refine Bel.drewN ?_ _) | (with_reducible refine Bel.setCell ?_ (by (try simp) <;> omega) _) | (with_reducible refine Bel.trans ?_ (by assumption)))), Part.made _ _ _⟩
  case round =>
    obtain ⟨k, ys, hk, rfl, hyl, hall, hbel, hpart⟩ := hrel
    have HYL := Lib.hid hyl
    have HA := Lib.hid hall
    clear hall
    by_cases hlt : k < hs.length
    · obtain ⟨b, o, rfl, hc⟩ := H.out (by omega)
      have hb := hc.1
      obtain ⟨e0, e1, e2, e3⟩ := SVer.arg (hc.below hbel hb) hlt
      have hss := (HS.out k hlt).1
      have hsa := (HS.out k hlt).2
      have hln := HL.out k hlt
      rw [← hss] at e3
      have HSA := Lib.hid (hsa.below hbel)
      clear hc H hss hsa
      obtain ⟨u0_, r0, z0⟩ := hpart.room (i := k * 4) (by omega)
      obtain ⟨u1_, r1, z1⟩ := hpart.room (i := k * 4 + 1) (by omega)
      obtain ⟨u2_, r2, z2⟩ := hpart.room (i := k * 4 + 2) (by omega)
      obtain ⟨u3_, r3, z3⟩ := hpart.room (i := k * 4 + 3) (by omega)
      have HP := Lib.hid hpart
      have hpl := hpart.lt
      clear hpart hyl
      go_wp2_with fail
      refine (toVersion_any _ _ _ _ _ (S k) _ HSA.out hln).mono ?_
      rintro e w1 ⟨⟨g, rfl, hg, hga⟩, hb1⟩
      have hbt := Bel.trans hbel hb1
      have r0 := (hb1.cell (p := ⟨w.heap.size, k * 4, none⟩) hpl).trans r0
      have z0 := (hb1.frozen (p := ⟨w.heap.size, k * 4, none⟩) hpl).trans z0
      have r1 := (hb1.cell (p := ⟨w.heap.size, k * 4 + 1, none⟩) hpl).trans r1
      have z1 := (hb1.frozen (p := ⟨w.heap.size, k * 4 + 1, none⟩) hpl).trans z1
      have r2 := (hb1.cell (p := ⟨w.heap.size, k * 4 + 2, none⟩) hpl).trans r2
      have z2 := (hb1.frozen (p := ⟨w.heap.size, k * 4 + 2, none⟩) hpl).trans z2
      have r3 := (hb1.cell (p := ⟨w.heap.size, k * 4 + 3, none⟩) hpl).trans r3
      have z3 := (hb1.frozen (p := ⟨w.heap.size, k * 4 + 3, none⟩) hpl).trans z3
      have HB1 := Lib.hid hb1
      have HGA := Lib.hid hga
      clear hb1 hga e0 e1 e2 e3
      go_wp2
      go_roundw
      case rel =>
        have hky : k < ys.length := by rw [HYL.out]; exact hlt
        refine ⟨k + 1, ys.set k ⟨hs[k].Num, hs[k].Par, hs[k].Memo, some ⟨g, 0, none⟩, (S k).length, (S k).length⟩, by omega, by go_num, by rw [List.length_set, HYL.out], fun i hi hi' hik => ?_, Bel.setAll (Nat.le_refl _) (SVer.cells ⟨hs[k].Num, hs[k].Par, hs[k].Memo, some ⟨g, 0, none⟩, (S k).length, (S k).length⟩) (k * 4) hbt, ?_⟩
        · by_cases e : i = k
          · subst e
            rw [List.getElem_set_self]
            exact ⟨⟨rfl, rfl, rfl⟩, rfl, g, rfl, by omega, Arr.farAll (by omega) (SVer.cells ⟨hs[i].Num, hs[i].Par, hs[i].Memo, some ⟨g, 0, none⟩, (S i).length, (S i).length⟩) (i * 4) HGA.out⟩
          · have hy' : i < ys.length := by rw [HYL.out]; exact hi
            rw [List.getElem_set_ne (fun h => e h.symm)]
            obtain ⟨q1, q2, g', q3, q4, q5⟩ := HA.out i hi hy' (by omega)
            exact ⟨q1, q2, g', q3, q4, Arr.farAll (by omega) (SVer.cells ⟨hs[k].Num, hs[k].Par, hs[k].Memo, some ⟨g, 0, none⟩, (S k).length, (S k).length⟩) (k * 4) (q5.below HB1.out)⟩
        · have hst := (Part.congr (ys := ys.set k ⟨hs[k].Num, hs[k].Par, hs[k].Memo, some ⟨g, 0, none⟩, (S k).length, (S k).length⟩) (HP.out.upto HB1.out hpl) (by rw [List.length_set]) (fun i h1 h2 h3 => List.getElem_set_ne (by omega) _)).step (k := k) (by rw [List.length_set]; exact hky) (fun _ => rfl)
          rw [List.getElem_set_self] at hst
          exact hst
      case measure => simp [intOf]; omega
    · obtain rfl : k = hs.length := by omega
      have HP := Lib.hid hpart
      clear hpart
      go_wp2
      go_ret
      have hy := HYL.out
      refine ⟨⟨ys, by rw [hy]; rfl, (HP.out.own (by omega)).arr, fun i hi => ?_, ⟨hy, fun i h1 h2 => (HA.out i h1 h2 h1).1⟩⟩, hbel⟩
      obtain ⟨-, q2, g', q3, -, q5⟩ := HA.out i (by omega) hi (by omega)
      exact ⟨q2, g', q3, q5⟩
theorem eqVersion_any (num par : Int) (memo : ByteArray) (g1 g2 c1 c2 : Nat) (ss : List SSetting) (w : World) (A1 : Arr SSetting.cells 2 w g1 ss) (A2 : Arr SSetting.cells 2 w g2 ss) (hn : ss.length ≤ 1048576) :
    Calls Try.prog 23 #[.agg #[.int .i64 num, .int .i64 par, .string memo, .slice (some ⟨g1, 0, none⟩) ss.length c1], .agg #[.int .i64 num, .int .i64 par, .string memo, .slice (some ⟨g2, 0, none⟩) ss.length c2]] w fun e w' => e = .returned (.bool true) ∧ Below w.heap.size w w' := by
  have H1 := Lib.hid A1
  have H2 := Lib.hid A2
  clear A1 A2
  go_enter Try.func23, Try.ntmps23
  go_wp2_with fail
  refine calls_box_out2 ?_
  intro W hbw B1 B2
  refine (eqSettingS_any g1 _ g2 _ ss _ (H1.out.below hbw) (H2.out.below hbw) hn).mono ?_
  rintro e w1 ⟨rfl, hb1⟩
  go_wp2
  go_ret
  exact ⟨rfl, Bel.trans hbw hb1⟩
theorem eqVersionS_any (b1 c1 b2 c2 : Nat) (hs ys : List SVer) (S : Nat → List SSetting) (w : World) (A1 : Arr SVer.cells 4 w b1 hs) (A2 : Arr SVer.cells 4 w b2 ys) (C1 : VCp w hs S) (C2 : VCp w ys S) (hv : vSame hs ys) (hn : hs.length ≤ 1048576) (hl : ∀ i, i < hs.length → (S i).length ≤ 1048576) :
    Calls Try.prog 9 #[.slice (some ⟨b1, 0, none⟩) hs.length c1, .slice (some ⟨b2, 0, none⟩) ys.length c2] w fun e w' => e = .returned (.bool true) ∧ Below w.heap.size w w' := by
  have H1 := Lib.hid C1
  have H2 := Lib.hid C2
  have HV := Lib.hid hv.2
  have HL := Lib.hid hl
  have hyl := hv.1
  clear C1 C2 hv hl
  rw [hyl]
  have HYL := Lib.hid hyl
  clear hyl
  go_enter Try.func9, Try.ntmps9
  go_wp2_with fail
  go_loopw [5] (fun i wr => ∃ k : Nat, k ≤ hs.length ∧ i = .int .i64 k ∧ Below w.heap.size w wr) (fun i wr => hs.length - (intOf i).toNat)
  case atStart => exact ⟨0, by omega, rfl, (by repeat (first | (with_reducible assumption) | (with_reducible exact Below.refl _ _) | (with_reducible refine Bel.alloc ?_ _) | (with_reducible refine Below.drew ?_) | (with_reducible refine Bel.drewN ?_ _) | (with_reducible refine Bel.setCell ?_ (by (try simp) <;> omega) _) | (with_reducible refine Bel.trans ?_ (by assumption))))⟩
  case round =>
    obtain ⟨k, hk, rfl, hbel⟩ := hrel
    by_cases hlt : k < hs.length
    · have hky : k < ys.length := by rw [HYL.out]; exact hlt
      obtain ⟨p0, p1, p2, p3⟩ := SVer.elems (A1.below hbel) hlt
      obtain ⟨q0, q1, q2, q3⟩ := SVer.elems (A2.below hbel) hky
      obtain ⟨m1, g1, m2, m3⟩ := H1.out k hlt
      obtain ⟨n1, g2, n2, n3⟩ := H2.out k hky
      obtain ⟨v1, v2, v3⟩ := HV.out k hlt hky
      rw [m1, m2] at p3
      rw [n1, n2] at q3
      rw [v1] at q0
      rw [v2] at q1
      rw [v3] at q2
      have hln := HL.out k hlt
      have HC : Hid (∀ z : Past wr, Calls Try.prog 23 #[.agg #[.int .i64 hs[k].Num, .int .i64 hs[k].Par, .string hs[k].Memo, .slice (some ⟨g1, 0, none⟩) (S k).length hs[k].c], .agg #[.int .i64 hs[k].Num, .int .i64 hs[k].Par, .string hs[k].Memo, .slice (some ⟨g2, 0, none⟩) (S k).length ys[k].c]] z.w fun e w' => e = .returned (.bool true) ∧ Below z.w.heap.size z.w w') := Lib.hid fun z => eqVersion_any _ _ _ g1 g2 _ _ (S k) z.w ((m3.below hbel).below z.h) ((n3.below hbel).below z.h) hln
      clear m1 m2 m3 n1 n2 n3 v1 v2 v3
      go_wp2_with fail
      refine wp_region_past (by kernel_rfl) (by kernel_rfl) ?_
      repeat (go_big_quiet_step ((go_at_call 23; exact Past.call _ (HC.out _))))
      refine wpQuiet_nil ?_
      intro W1 hw'
      obtain ⟨⟨W_, hb1⟩, hw''⟩ := hw'
      subst hw''
      go_wp2
      go_roundw
      case rel => exact ⟨k + 1, by omega, by go_num, Bel.trans hbel hb1⟩
      case measure => simp [intOf]; omega
    · obtain rfl : k = hs.length := by omega
      go_wp2
      go_ret
      exact ⟨rfl, hbel⟩
end Go.Proofs.Ytfbnckgfgaddkaa
