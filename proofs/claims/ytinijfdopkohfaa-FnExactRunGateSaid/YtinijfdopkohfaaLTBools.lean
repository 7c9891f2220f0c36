/- The laws package's helpers for rows of bools (comparison, marks, copies) do what they say. No condition beyond the theorems' own. -/
import Derived.Test.YtinijfdopkohfaaChecked
import Derived.Test.YtinijfdopkohfaaApp
import Derived.Test.YtinijfdopkohfaaRowBo
namespace Go.Proofs.Ytinijfdopkohfaa
set_option linter.unusedSimpArgs false
set_option linter.unusedVariables false
open Go.RowKit
set_option maxHeartbeats 400000
def markB (n : Int) : Bool := n % 3 == 0
def markBV (k : Int) (m : Nat) : Value := .bool (markB (k + m))
def marksB (k : Int) (n : Nat) : List Bool := (List.range n).map fun i : Nat => markB (k + (i : Int))
theorem marksB_len (k : Int) (n : Nat) : (marksB k n).length = n := by simp [marksB]
theorem marksB_at (k : Int) (n i : Nat) (h : i < (marksB k n).length) : (marksB k n)[i] = markB (k + (i : Int)) := by simp [marksB]
theorem marksB_take {cur : Array Value} {k : Int} {n : Nat} (h : ∀ m : Nat, m < n → cur[m]? = some (markBV k m)) (hn : n ≤ cur.size) :
    cur.toList.take ((marksB k n).length * 1) = (marksB k n).flatMap boolc := by
  apply List.ext_getElem?
  intro i
  rw [marksB_len, Nat.mul_one, List.getElem?_take]
  by_cases hi : i < n
  · rw [if_pos hi]
    have hm : i < (marksB k n).length := by rw [marksB_len]; exact hi
    have h1 := flat_at (cs := boolc) (sz := 1) (fun _ => rfl) (marksB k n) i hm 0 (.bool (marksB k n)[i]) rfl
    rw [Nat.mul_one, Nat.add_zero] at h1
    rw [h1, Array.getElem?_toList, h i hi, marksB_at]; rfl
  · rw [if_neg hi, List.getElem?_eq_none]
    rw [flat_len (sz := 1) (fun _ => rfl), marksB_len]; omega
theorem tmod3 {n : Int} (h : 0 ≤ n) : n.tmod 3 = n % 3 := Int.tmod_eq_emod_of_nonneg h
theorem eqBoolS_any (A1 A2 : Option Addr) (c1 c2 : Nat) (xs : List Bool) (w : World) (S1 : ArgS boolc 1 w A1 xs) (S2 : ArgS boolc 1 w A2 xs) (hn : xs.length ≤ 1048578) :
    Calls Try.prog 42 #[.slice A1 xs.length c1, .slice A2 xs.length c2] w fun e w' => e = .returned (.bool true) ∧ Below w.heap.size w w' := by
  have H1 := Lib.hid S1
  have H2 := Lib.hid S2
  clear S1 S2
  go_enter Try.func42, Try.ntmps42
  go_wp2_with fail
  go_loopw [5] (fun i wr => ∃ k : Nat, k ≤ xs.length ∧ i = .int .i64 k ∧ Below w.heap.size w wr) (fun i wr => xs.length - (intOf i).toNat)
  case atStart => exact ⟨0, by omega, rfl, Below.refl _ _⟩
  case round =>
    obtain ⟨k, hk, rfl, hbel⟩ := hrel
    by_cases hlt : k < xs.length
    · obtain ⟨b1, o1, rfl, a1⟩ := H1.out (by omega)
      obtain ⟨b2, o2, rfl, a2⟩ := H2.out (by omega)
      have e1 := argB (a1.below hbel a1.1) hlt
      have e2 := argB (a2.below hbel a2.1) hlt
      have hs := hbel.size
      have q1 := Past.cell e1 (Nat.lt_of_lt_of_le a1.1 hs)
      have q2 := Past.cell e2 (Nat.lt_of_lt_of_le a2.1 hs)
      clear a1 a2 H1 H2 e1 e2
      go_wp2_with fail
      refine wp_region_past (by kernel_rfl) (by kernel_rfl) ?_
      repeat (go_big_quiet_step (fail))
      refine wpQuiet_nil ?_
      intro W1 hw'
      obtain ⟨⟨W_, hb1⟩, hw''⟩ := hw'
      subst hw''
      go_wp2
      go_roundw
      case rel => exact ⟨k + 1, by omega, by go_num, Bel.trans hbel hb1⟩
      case measure => simp [intOf]; omega
    · obtain rfl : k = xs.length := by omega
      go_wp2
      go_ret
      exact ⟨rfl, hbel⟩
/-- What a marked row of bools is. -/
theorem markBoolS_any (v : Value) (ys : List Bool) (k : Int) (base : Nat) (w : World) (R : Row boolc 1 4 w base v ys) (hn : ys.length ≤ 1048578) (hk0 : 0 ≤ k) (hk1 : k ≤ 1000000000) :
    Calls Try.prog 43 #[v, .int .i64 k] w fun e w' => e = .returned (.int .i64 (k + ys.length)) ∧ Row boolc 1 4 w' base v (marksB k ys.length) ∧ w.grownBy w' v.ownBlock := by
  rcases R.2 with ⟨h3, h4⟩ | ⟨g, cap, cur, h3, h5, h6, h7, h8, h9, h10⟩
  · subst h3
    have hl := h4
    obtain rfl : ys = [] := List.eq_nil_of_length_eq_zero h4
    go_enter Try.func43, Try.ntmps43
    go_wp2_with fail
    go_loopw [1, 5] (fun kk i wr => kk = .int .i64 k ∧ i = .int .i64 0 ∧ wr = w) (fun _ i wr => 0)
    case atStart => exact ⟨rfl, rfl, rfl⟩
    case round =>
      obtain ⟨rfl, rfl, rfl⟩ := hrel
      go_wp2
      go_ret
      exact ⟨ret_int (by simp), ⟨by simp [marksB], Or.inl ⟨rfl, by simp [marksB]⟩⟩, World.grownBy.refl _ _⟩
  · subst h3
    rw [Nat.mul_one] at h9 h10
    have H10 := Lib.hid h10
    have hcap : ys.length ≤ cur.size := by omega
    clear h10
    have H9 := Lib.hid h9
    clear h9
    have HB : Box 4 w g cur := h6
    have HH := Lib.hid HB
    clear HB h6 R
    go_enter Try.func43, Try.ntmps43
    go_wp2_with fail
    go_loopw [1, 5] (fun kk i wr => ∃ (j : Nat) (cur' : Array Value), j ≤ ys.length ∧ i = .int .i64 j ∧ kk = .int .i64 (k + j) ∧ w.grownBy wr (some g) ∧ Box 4 wr g cur' ∧ cur'.size = cur.size ∧ ∀ m : Nat, m < j → cur'[m]? = some (markBV k m)) (fun _ i wr => ys.length - (intOf i).toNat)
    case atStart => exact ⟨0, cur, by omega, rfl, by simp, World.grownBy.refl _ _, HH.out, rfl, fun m hm => absurd hm (Nat.not_lt_zero m)⟩
    case round =>
      obtain ⟨j, cur', hj, rfl, rfl, hgr, B, hsz, hall⟩ := hrel
      have HA := Lib.hid hall
      have HG := Lib.hid hgr
      clear hall hgr
      by_cases hlt : j < ys.length
      · have hjc : j < cur'.size := by omega
        have c0 : wr.cell? ⟨g, j, none⟩ = some cur'[j] := (B.cell j).trans (Array.getElem?_eq_getElem hjc)
        have z0 : wr.frozen? ⟨g, j, none⟩ = false := B.free j
        have HB := Lib.hid B
        clear B
        go_wp2
        go_roundw
        case rel => exact ⟨j + 1, cur'.setIfInBounds j (markBV k j), by omega, by go_num, by go_num, only_set HG.out rfl _, HB.out.set j _, by simpa using hsz, set_uptoV HA.out hjc rfl⟩
        case measure => simp [intOf]; omega
      · obtain rfl : j = ys.length := by omega
        have HB := Lib.hid B
        clear B
        go_wp2
        go_ret
        refine ⟨rfl, ⟨by rw [flat_len (sz := 1) (fun _ => rfl)], Or.inr ⟨g, cap, cur', by rw [marksB_len], h5, HB.out, by rw [marksB_len]; exact h7, h8, by rw [Nat.mul_one]; have := H9.out; omega, ?_⟩⟩, by simpa [Value.ownBlock] using HG.out⟩
        exact marksB_take HA.out (by omega)
theorem heldBoolS_any (A : Option Addr) (c n : Nat) (k : Int) (w : World) (S : ArgS boolc 1 w A (marksB k n)) (hn : n ≤ 1048578) (hk0 : 0 ≤ k) (hk1 : k ≤ 1000000000) :
    Calls Try.prog 44 #[.slice A n c, .int .i64 k] w fun e w' => e = .returned (.int .i64 (k + n)) ∧ Below w.heap.size w w' := by
  have H := Lib.hid S
  clear S
  go_enter Try.func44, Try.ntmps44
  go_wp2_with fail
  go_loopw [1, 5] (fun kk i wr => ∃ j : Nat, j ≤ n ∧ i = .int .i64 j ∧ kk = .int .i64 (k + j) ∧ Below w.heap.size w wr) (fun _ i wr => n - (intOf i).toNat)
  case atStart => exact ⟨0, by omega, rfl, by simp, Below.refl _ _⟩
  case round =>
    obtain ⟨j, hj, rfl, rfl, hbel⟩ := hrel
    by_cases hlt : j < n
    · have hlm : j < (marksB k n).length := by rw [marksB_len]; exact hlt
      obtain ⟨b1, o1, rfl, a1⟩ := H.out (by omega)
      have e1 := argB (a1.below hbel a1.1) hlm
      rw [marksB_at] at e1
      unfold markB at e1
      have q1 := Past.cell e1 (Nat.lt_of_lt_of_le a1.1 hbel.size)
      clear a1 H
      go_wp2
      go_roundw
      case rel => exact ⟨j + 1, by omega, by go_num, by go_num, hbel⟩
      case measure => simp [intOf]; omega
    · obtain rfl : j = n := by omega
      go_wp2
      go_ret
      exact ⟨rfl, hbel⟩
end Go.Proofs.Ytinijfdopkohfaa
