/- Chapter 21: open gates: the walks. -/
import Derived.Test.YtinijfdopkohfaaL21
import Derived.Test.YtinijfdopkohfaaApp
namespace Go.Proofs.Ytinijfdopkohfaa
set_option linter.unusedSimpArgs false
set_option linter.unusedVariables false
open Go.RowKit
set_option maxHeartbeats 400000
set_option maxRecDepth 100000
def opG (x : SGate) : Bool := !x.Shuts
def ogRes (xs : List SGate) : List Int × Int := if vlGate xs then (idxL opG xs xs.length, 0) else ([], 1)
theorem ogRes_1 {xs : List SGate} (h : vlGate xs = false) : ogRes xs = ([], 1) := by rw [ogRes, if_neg (by rw [h]; simp)]
theorem ogRes_0 {xs : List SGate} (h : vlGate xs = true) : ogRes xs = (idxL opG xs xs.length, 0) := by rw [ogRes, if_pos h]
theorem ogRes_len {xs : List SGate} : (ogRes xs).1.length ≤ xs.length := by
  cases h : vlGate xs
  · rw [ogRes_1 h]; simp
  · rw [ogRes_0 h]; exact idxL_len _ _ _
theorem OpenGates_any (xs : List SGate) (b c : Nat) (w : World) (A : Arr SGate.cells 6 w b xs) (hn : xs.length ≤ 1048576) (hf : ∀ i (h : i < xs.length), xs[i].Id.size ≤ 9223372036854775807) :
    Calls Try.prog 35 #[.slice (some ⟨b, 0, none⟩) xs.length c] w fun e w' => (∃ v, e = .returned (.tuple #[v, .int .i64 (ogRes xs).2]) ∧ Row intc 1 2 w' w.heap.size v (ogRes xs).1) ∧ Below w.heap.size w w' := by
  have HA := Lib.hid A
  clear A
  go_enter Try.func35, Try.ntmps35
  go_wp2_with (go_at_call 74; refine (ValidGates_any xs b c _ HA.out hn hf).mono ?_; rintro e w1 ⟨rfl, hb1⟩)
  all_goals try (go_ret2; rw [ogRes_1 (by first | assumption | exact not_f (by assumption) | exact not_t (by assumption))]; exact ⟨⟨_, rfl, Row.nil⟩, (by repeat (first | (with_reducible assumption) | (with_reducible exact Below.refl _ _) | (with_reducible refine Bel.alloc ?_ _) | (with_reducible refine Below.drew ?_) | (with_reducible refine Bel.drewN ?_ _) | (with_reducible refine Bel.setCell ?_ (by (try simp) <;> omega) _) | (with_reducible refine Bel.trans ?_ (by assumption))))⟩)
  have hv : vlGate xs = true := (by first | assumption | exact not_f (by assumption) | exact not_t (by assumption))
  have hlen := vlGate_len hv
  simp only [hv, Bool.not_true]
  have HV := Lib.hid hv
  clear hv
  go_loopw [4, 12] (fun v i wr => ∃ k : Nat, k ≤ xs.length ∧ i = .int .i64 k ∧ Row intc 1 2 wr w.heap.size v (idxL opG xs k) ∧ Below w.heap.size w wr) (fun _ i wr => xs.length - (intOf i).toNat)
  case atStart => exact ⟨0, by omega, rfl, Row.nil, hb1⟩
  case round =>
    obtain ⟨k, hk, rfl, hrow, hbel⟩ := hrel
    have HR := Lib.hid hrow
    clear hrow
    by_cases hlt : k < xs.length
    · obtain ⟨e0, e1, e2, e3, e4, e5⟩ := SGate.elem (HA.out.below hbel) hlt
      have hle := idxL_len opG xs k
      have hsz := hbel.size
      cases hq : xs[k].Shuts
      · have hq2 : opG xs[k] = true := by rw [opG, hq]; rfl
        rw [hq] at e4
        have HQ := Lib.hid hq2
        clear hq hq2
        go_wp2_with (at_builtin; (refine wpList_pushI rfl _ _ 43 rfl w.heap.size 2 Try.underlying43 (by kernel_rfl) u4 (idxL opG xs k) (k : Int) rfl (HR.out.alloc _) 1 (by show Value.slice (some ⟨_, 0, none⟩) 1 1 = _; simp) (by omega) (by simp; omega) ?_); intro v' w3 hr3 hg3 hb4)
        go_roundw
        case rel => exact ⟨k + 1, by omega, by go_num, by rw [idxL_yes hlt HQ.out]; exact hr3, (Bel.alloc hbel _).trans hb4⟩
        case measure => simp [intOf]; omega
      · have hq2 : opG xs[k] = false := by rw [opG, hq]; rfl
        rw [hq] at e4
        have HQ := Lib.hid hq2
        clear hq hq2
        go_wp2
        go_roundw
        case rel => exact ⟨k + 1, by omega, by go_num, by rw [idxL_no hlt HQ.out]; exact HR.out.alloc _, Bel.alloc hbel _⟩
        case measure => simp [intOf]; omega
    · obtain rfl : k = xs.length := by omega
      go_wp2
      go_ret2
      rw [ogRes_0 HV.out]
      exact ⟨⟨_, rfl, HR.out⟩, hbel⟩
theorem sOpenGates_any (xs : List SGate) (b c : Nat) (w : World) (A : Arr SGate.cells 6 w b xs) (hn : xs.length ≤ 1048576) (hf : ∀ i (h : i < xs.length), xs[i].Id.size ≤ 9223372036854775807) :
    Calls Try.prog 33 #[.slice (some ⟨b, 0, none⟩) xs.length c] w fun e w' => (∃ v, e = .returned (.tuple #[v, .int .i64 (ogRes xs).2]) ∧ Row intc 1 2 w' w.heap.size v (ogRes xs).1) ∧ Below w.heap.size w w' := by
  have HA := Lib.hid A
  clear A
  go_enter Try.func33, Try.ntmps33
  go_wp2_with (go_at_call 73; refine (l21List_any xs b c _ HA.out hn hf).mono ?_; rintro e w1 ⟨rfl, hb1⟩)
  all_goals try (go_ret2; rw [ogRes_1 (by first | assumption | exact not_f (by assumption) | exact not_t (by assumption))]; exact ⟨⟨_, rfl, Row.nil⟩, (by repeat (first | (with_reducible assumption) | (with_reducible exact Below.refl _ _) | (with_reducible refine Bel.alloc ?_ _) | (with_reducible refine Below.drew ?_) | (with_reducible refine Bel.drewN ?_ _) | (with_reducible refine Bel.setCell ?_ (by (try simp) <;> omega) _) | (with_reducible refine Bel.trans ?_ (by assumption))))⟩)
  have hv : vlGate xs = true := (by first | assumption | exact not_f (by assumption) | exact not_t (by assumption))
  have hlen := vlGate_len hv
  simp only [hv, Bool.not_true]
  have HV := Lib.hid hv
  clear hv
  go_loopw [4, 5] (fun v i wr => ∃ k : Nat, k ≤ xs.length ∧ i = .int .i64 k ∧ Row intc 1 2 wr w.heap.size v (idxL opG xs k) ∧ Below w.heap.size w wr) (fun _ i wr => xs.length - (intOf i).toNat)
  case atStart => exact ⟨0, by omega, rfl, Row.empty hb1.size, Bel.alloc hb1 _⟩
  case round =>
    obtain ⟨k, hk, rfl, hrow, hbel⟩ := hrel
    have HR := Lib.hid hrow
    clear hrow
    by_cases hlt : k < xs.length
    · obtain ⟨e0, e1, e2, e3, e4, e5⟩ := SGate.elem (HA.out.below hbel) hlt
      have hle := idxL_len opG xs k
      have hsz := hbel.size
      cases hq : xs[k].Shuts
      · have hq2 : opG xs[k] = true := by rw [opG, hq]; rfl
        rw [hq] at e4
        have HQ := Lib.hid hq2
        clear hq hq2
        go_wp2_with (at_builtin; refine wpList_pushI rfl _ _ 43 rfl w.heap.size 2 Try.underlying43 (by kernel_rfl) u4 (idxL opG xs k) (k : Int) rfl HR.out 1 rfl (by omega) hsz ?_; intro v' w3 hr3 hg3 hb4)
        go_roundw
        case rel => exact ⟨k + 1, by omega, by go_num, by rw [idxL_yes hlt HQ.out]; exact hr3, hbel.trans hb4⟩
        case measure => simp [intOf]; omega
      · have hq2 : opG xs[k] = false := by rw [opG, hq]; rfl
        rw [hq] at e4
        have HQ := Lib.hid hq2
        clear hq hq2
        go_wp2
        go_roundw
        case rel => exact ⟨k + 1, by omega, by go_num, by rw [idxL_no hlt HQ.out]; exact HR.out, hbel⟩
        case measure => simp [intOf]; omega
    · obtain rfl : k = xs.length := by omega
      go_wp2
      go_ret2
      rw [ogRes_0 HV.out]
      exact ⟨⟨_, rfl, HR.out⟩, hbel⟩
end Go.Proofs.Ytinijfdopkohfaa
