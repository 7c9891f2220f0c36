/- Chapter 4: the functions that the law of odd observations calls on what is left (nil let in). No condition. -/
import Derived.Test.YtcjalooaikfkbaaL04w
import Derived.Test.YtcjalooaikfkbaaSrcR
namespace Go.Proofs.Ytcjalooaikfkbaa
set_option linter.unusedSimpArgs false
set_option linter.unusedVariables false
open Go.RowKit
set_option maxHeartbeats 800000
theorem sValidObserved_any (xs : List SObserved) (b c : Nat) (w : World) (A : Arr SObserved.cells 4 w b xs) (hn : xs.length ≤ 1048576) :
    Calls Try.prog 32 #[.slice (some ⟨b, 0, none⟩) xs.length c] w fun e w' => e = .returned (.bool (vlObserved xs)) ∧ Below w.heap.size w w' := by
  go_enter Try.func32, Try.ntmps32
  go_wp2_with fail
  refine (l04Ok_any xs b c _ A hn).mono ?_
  rintro e w1 ⟨rfl, hb1⟩
  go_wp2
  go_ret
  exact ⟨rfl, hb1⟩
theorem l04Ok_nil (w : World) : Calls Try.prog 72 #[.slice none 0 0] w fun e w' => e = .returned (.bool true) ∧ Below w.heap.size w w' := by
  go_enter Try.func72, Try.ntmps72
  go_wp2_with fail
  go_loopw [3] (fun i wr => i = .int .i64 0 ∧ Below w.heap.size w wr) (fun i wr => 0)
  case atStart => exact ⟨rfl, Below.refl _ _⟩
  case round =>
    obtain ⟨rfl, hbel⟩ := hrel
    go_wp2
    go_ret
    exact ⟨rfl, hbel⟩
theorem sValidObserved_nil (w : World) : Calls Try.prog 32 #[.slice none 0 0] w fun e w' => e = .returned (.bool true) ∧ Below w.heap.size w w' := by
  go_enter Try.func32, Try.ntmps32
  go_wp2_with fail
  refine (l04Ok_nil _).mono ?_
  rintro e w1 ⟨rfl, hb1⟩
  go_wp2
  go_ret
  exact ⟨rfl, hb1⟩
theorem ValidObserved_nil (w : World) : Calls Try.prog 73 #[.slice none 0 0] w fun e w' => e = .returned (.bool true) ∧ Below w.heap.size w w' := by
  go_enter Try.func73, Try.ntmps73
  go_wp2_with fail
  go_loopw [10] (fun i wr => i = .int .i64 0 ∧ Below w.heap.size w wr) (fun i wr => 0)
  case atStart => exact ⟨rfl, Below.refl _ _⟩
  case round =>
    obtain ⟨rfl, hbel⟩ := hrel
    go_wp2
    go_ret
    exact ⟨rfl, hbel⟩
theorem oddCode_nil (s d : Int) (w : World) (hq : lims s d = true) : Calls Try.prog 70 #[.slice none 0 0, .int .i64 s, .int .i64 d] w fun e w' => e = .returned (.int .i64 0) ∧ Below w.heap.size w w' := by
  have h1 : inr 0 10000 s = true := by simp only [lims, Bool.and_eq_true] at hq; exact hq.1
  have h2 : inr 0 10000 d = true := by simp only [lims, Bool.and_eq_true] at hq; exact hq.2
  have H1 := Lib.hid h1
  have H2 := Lib.hid h2
  clear h1 h2 hq
  go_enter Try.func70, Try.ntmps70
  go_wp2_with (first | (go_at_call 73; refine (ValidObserved_nil _).mono ?_; rintro e w1 ⟨rfl, hb1⟩) | (go_at_call 43; refine (Calls.boolIs (by first | exact H1.out | exact H2.out) (within_any _ _ _ _)).mono ?_; rintro e w' ⟨rfl, rfl⟩))
  go_ret
  exact ⟨rfl, (by repeat (first | (with_reducible assumption) | (with_reducible exact Below.refl _ _) | (with_reducible refine Bel.alloc ?_ _) | (with_reducible refine Below.drew ?_) | (with_reducible refine Bel.drewN ?_ _) | (with_reducible refine Bel.setCell ?_ (by (try simp) <;> omega) _) | (with_reducible refine Bel.trans ?_ (by assumption))))⟩
theorem OddObserved_nil (s d : Int) (w : World) (hq : lims s d = true) : Calls Try.prog 31 #[.slice none 0 0, .int .i64 s, .int .i64 d] w fun e w' => (∃ D c, e = .returned (.tuple #[.slice D 0 c, .int .i64 0])) ∧ Below w.heap.size w w' := by
  have HQ := Lib.hid hq
  clear hq
  go_enter Try.func31, Try.ntmps31
  go_wp2_with (go_at_call 70; refine (oddCode_nil s d _ HQ.out).mono ?_; rintro e w1 ⟨rfl, hb1⟩)
  go_loopw [9, 10] (fun v i wr => v = .slice none 0 0 ∧ i = .int .i64 1 ∧ Below w.heap.size w wr) (fun _ i wr => 0)
  case atStart => exact ⟨rfl, rfl, hb1⟩
  case round =>
    obtain ⟨rfl, rfl, hbel⟩ := hrel
    go_wp2
    go_ret2
    exact ⟨⟨_, _, rfl⟩, hbel⟩
/-- what is left, in its own row or nil -/
theorem left_odd {xs : List SObserved} {s d : Int} {w : World} {base : Nat} {D : Option Addr} {c : Nat} {t : TypeId} (R : Row SObserved.cells 4 t w base (.slice D xs.length c) xs) (hv : vlObserved xs = true) (hq : lims s d = true) (ho : ooRes xs s d = ([], 0)) :
    ∀ w', Below w.heap.size w w' → Calls Try.prog 31 #[.slice D xs.length c, .int .i64 s, .int .i64 d] w' fun e w'' => (∃ D' c', e = .returned (.tuple #[.slice D' 0 c', .int .i64 0])) ∧ Below w'.heap.size w' w'' := fun w' hb => by
  have hlen := vlObserved_len hv
  by_cases hn : (Value.slice D xs.length c).ownBlock = none
  · rcases R.2 with ⟨h3, h4⟩ | ⟨g, cap, cur, h3, _⟩
    · have h5 := List.eq_nil_of_length_eq_zero h4
      subst h5
      injection h3 with e1 e2 e3
      subst e1
      subst e3
      exact OddObserved_nil s d w' hq
    · rw [h3] at hn; cases hn
  · obtain ⟨b, c2, e, -, hA⟩ := R.arr hn (fun _ => rfl)
    injection e with e1 _ e3
    subst e1
    subst e3
    refine (OddObserved_any xs b c s d w' (hA.below hb) (by omega)).mono ?_
    rintro e w'' ⟨⟨v, rfl, hR⟩, hb2⟩
    rw [ho] at hR ⊢
    obtain ⟨D', c', rfl, -⟩ := hR.form (fun _ => rfl)
    exact ⟨⟨D', c', rfl⟩, hb2⟩
theorem left_ok {xs : List SObserved} {w : World} {base : Nat} {D : Option Addr} {c : Nat} {t : TypeId} (R : Row SObserved.cells 4 t w base (.slice D xs.length c) xs) (hv : vlObserved xs = true) :
    ∀ w', Below w.heap.size w w' → Calls Try.prog 32 #[.slice D xs.length c] w' fun e w'' => e = .returned (.bool true) ∧ Below w'.heap.size w' w'' := fun w' hb => by
  have hlen := vlObserved_len hv
  by_cases hn : (Value.slice D xs.length c).ownBlock = none
  · rcases R.2 with ⟨h3, h4⟩ | ⟨g, cap, cur, h3, _⟩
    · have h5 := List.eq_nil_of_length_eq_zero h4
      subst h5
      injection h3 with e1 e2 e3
      subst e1
      subst e3
      exact sValidObserved_nil w'
    · rw [h3] at hn; cases hn
  · obtain ⟨b, c2, e, -, hA⟩ := R.arr hn (fun _ => rfl)
    injection e with e1 _ e3
    subst e1
    subst e3
    refine (sValidObserved_any xs b c w' (hA.below hb) (by omega)).mono ?_
    rintro e w'' ⟨rfl, hb2⟩
    exact ⟨by rw [hv], hb2⟩
end Go.Proofs.Ytcjalooaikfkbaa
