/- The helpers of the laws package for rows of the type Observed that a call makes (comparisons, marks). No condition beyond the theorems own. -/
import Derived.Test.YtoiobpmpkfdidaaLTObserved
import Derived.Test.YtoiobpmpkfdidaaLTMark
namespace Go.Proofs.Ytoiobpmpkfdidaa
set_option linter.unusedSimpArgs false
set_option linter.unusedVariables false
open Go.RowKit
set_option maxHeartbeats 400000
def marksObserved (k : Int) (len : Nat) : List SObserved := (List.range len).map fun m : Nat => ⟨k + 4 * (m : Int), k + 4 * (m : Int) + 1, k + 4 * (m : Int) + 2, k + 4 * (m : Int) + 3⟩
theorem marksObserved_len (k : Int) (n : Nat) : (marksObserved k n).length = n := by simp [marksObserved]
theorem marksObserved_at (k : Int) (n m : Nat) (h : m < (marksObserved k n).length) : (marksObserved k n)[m] = ⟨k + 4 * (m : Int), k + 4 * (m : Int) + 1, k + 4 * (m : Int) + 2, k + 4 * (m : Int) + 3⟩ := by simp [marksObserved]
def markObservedF (k : Int) (q : Nat) : Value := match q % 4 with
  | 0 => .int .i64 (k + 4 * ((q / 4 : Nat) : Int))
  | 1 => .int .i64 (k + 4 * ((q / 4 : Nat) : Int) + 1)
  | 2 => .int .i64 (k + 4 * ((q / 4 : Nat) : Int) + 2)
  | _ => .int .i64 (k + 4 * ((q / 4 : Nat) : Int) + 3)
theorem markObservedF_0 (k : Int) (m : Nat) : markObservedF k (m * 4) = .int .i64 (k + 4 * (m : Int)) := by
  have h1 : (m * 4) % 4 = 0 := by omega
  have h2 : (m * 4) / 4 = m := by omega
  unfold markObservedF; rw [h1, h2]; rfl
theorem markObservedF_1 (k : Int) (m : Nat) : markObservedF k (m * 4 + 1) = .int .i64 (k + 4 * (m : Int) + 1) := by
  have h1 : (m * 4 + 1) % 4 = 1 := by omega
  have h2 : (m * 4 + 1) / 4 = m := by omega
  unfold markObservedF; rw [h1, h2]; rfl
theorem markObservedF_2 (k : Int) (m : Nat) : markObservedF k (m * 4 + 2) = .int .i64 (k + 4 * (m : Int) + 2) := by
  have h1 : (m * 4 + 2) % 4 = 2 := by omega
  have h2 : (m * 4 + 2) / 4 = m := by omega
  unfold markObservedF; rw [h1, h2]; rfl
theorem markObservedF_3 (k : Int) (m : Nat) : markObservedF k (m * 4 + 3) = .int .i64 (k + 4 * (m : Int) + 3) := by
  have h1 : (m * 4 + 3) % 4 = 3 := by omega
  have h2 : (m * 4 + 3) / 4 = m := by omega
  unfold markObservedF; rw [h1, h2]; rfl
theorem marksObserved_take {cur : Array Value} {k : Int} {n : Nat} (h : ∀ q : Nat, q < n * 4 → cur[q]? = some (markObservedF k q)) (hn : n * 4 ≤ cur.size) :
    cur.toList.take ((marksObserved k n).length * 4) = (marksObserved k n).flatMap SObserved.cells := by
  apply List.ext_getElem?
  intro i
  rw [marksObserved_len, List.getElem?_take]
  by_cases hi : i < n * 4
  · rw [if_pos hi]
    have hm : i / 4 < (marksObserved k n).length := by rw [marksObserved_len]; omega
    have key : ∀ v, (SObserved.cells (marksObserved k n)[i / 4])[i % 4]? = some v → ((marksObserved k n).flatMap SObserved.cells)[i]? = some v := fun v hv => by
      have h1 := flat_at (cs := SObserved.cells) (sz := 4) (fun _ => rfl) (marksObserved k n) (i / 4) hm (i % 4) v hv
      rwa [show i / 4 * 4 + i % 4 = i by omega] at h1
    have h2 := h i hi
    rw [Array.getElem?_toList] 
    rw [h2]
    refine (key _ ?_).symm
    rw [marksObserved_at]
    have hc : i % 4 = 0 ∨ i % 4 = 1 ∨ i % 4 = 2 ∨ i % 4 = 3 := by omega
    rcases hc with hc | hc | hc | hc <;> (unfold markObservedF; rw [hc]; rfl)
  · rw [if_neg hi, List.getElem?_eq_none]
    rw [flat_len (sz := 4) (fun _ => rfl), marksObserved_len]; omega
theorem eqObservedS_arg (A1 A2 : Option Addr) (c1 c2 : Nat) (xs : List SObserved) (w : World) (S1 : ArgS SObserved.cells 4 w A1 xs) (S2 : ArgS SObserved.cells 4 w A2 xs) (hn : xs.length ≤ 1048576) :
    Calls Try.prog 12 #[.slice A1 xs.length c1, .slice A2 xs.length c2] w fun e w' => e = .returned (.bool true) ∧ Below w.heap.size w w' := by
  have H1 := Lib.hid S1
  have H2 := Lib.hid S2
  clear S1 S2
  go_enter Try.func12, Try.ntmps12
  go_wp2_with fail
  go_loopw [5] (fun i wr => ∃ k : Nat, k ≤ xs.length ∧ i = .int .i64 k ∧ Below w.heap.size w wr) (fun i wr => xs.length - (intOf i).toNat)
  case atStart => exact ⟨0, by omega, rfl, (by repeat (first | (with_reducible assumption) | (with_reducible exact Below.refl _ _) | (with_reducible refine Bel.alloc ?_ _) | (with_reducible refine Below.drew ?_) | (with_reducible refine Bel.drewN ?_ _) | (with_reducible refine Bel.setCell ?_ (by (try simp) <;> omega) _) | (with_reducible refine Bel.trans ?_ (by assumption))))⟩
  case round =>
    obtain ⟨k, hk, rfl, hbel⟩ := hrel
    by_cases hlt : k < xs.length
    · obtain ⟨b1, o1, rfl, a1⟩ := H1.out (by omega)
      obtain ⟨b2, o2, rfl, a2⟩ := H2.out (by omega)
      have hs := hbel.size
      have hb1 := Nat.lt_of_lt_of_le a1.1 hs
      have hb2 := Nat.lt_of_lt_of_le a2.1 hs
      obtain ⟨d0, d1, d2, d3⟩ := SObserved.arg (a1.below hbel a1.1) hlt
      obtain ⟨g0, g1, g2, g3⟩ := SObserved.arg (a2.below hbel a2.1) hlt
      have p0 := Past.cell d0 hb1
      have q0 := Past.cell g0 hb2
      have p1 := Past.cell d1 hb1
      have q1 := Past.cell g1 hb2
      have p2 := Past.cell d2 hb1
      have q2 := Past.cell g2 hb2
      have p3 := Past.cell d3 hb1
      have q3 := Past.cell g3 hb2
      clear a1 a2 H1 H2 d0 g0 d1 g1 d2 g2 d3 g3
      go_wp2_with fail
      refine wp_region_past (by kernel_rfl) (by kernel_rfl) ?_
      repeat (go_big_quiet_step ((go_at_call 33; exact Past.call _ (eqObserved_any xs[k] _))))
      refine wpQuiet_nil ?_
      intro W1 hw'
      obtain ⟨⟨W_, hbx⟩, hw''⟩ := hw'
      subst hw''
      go_wp2
      go_roundw
      case rel => exact ⟨k + 1, by omega, by go_num, Bel.trans hbel hbx⟩
      case measure => simp [intOf]; omega
    · obtain rfl : k = xs.length := by omega
      go_wp2
      go_ret
      exact ⟨rfl, hbel⟩
theorem markObservedS_row (v : Value) (ys : List SObserved) (k : Int) (base : Nat) (w : World) (R : Row SObserved.cells 4 44 w base v ys) (hn : ys.length ≤ 1048576) (hk0 : 0 ≤ k) (hk1 : k ≤ 10000000) :
    Calls Try.prog 15 #[v, .int .i64 k] w fun e w' => e = .returned (.int .i64 (k + 4 * ys.length)) ∧ Row SObserved.cells 4 44 w' base v (marksObserved k ys.length) ∧ w.grownBy w' v.ownBlock := by
  rcases R.2 with ⟨h3, h4⟩ | ⟨g, cap, cur, h3, h5, h6, h7, h8, h9, h10⟩
  · subst h3
    obtain rfl : ys = [] := List.eq_nil_of_length_eq_zero h4
    go_enter Try.func15, Try.ntmps15
    go_wp2_with fail
    go_loopw [1, 5] (fun kk i wr => kk = .int .i64 k ∧ i = .int .i64 0 ∧ wr = w) (fun _ i wr => 0)
    case atStart => exact ⟨rfl, rfl, rfl⟩
    case round =>
      obtain ⟨rfl, rfl, rfl⟩ := hrel
      go_wp2
      go_ret
      exact ⟨ret_int (by simp), ⟨by simp [marksObserved], Or.inl ⟨rfl, by simp [marksObserved]⟩⟩, World.grownBy.refl _ _⟩
  · subst h3
    have hcap : ys.length * 4 ≤ cur.size := by have := Nat.mul_le_mul_right 4 h7; omega
    have H9 := Lib.hid h9
    clear h9 h10
    have HB : Box 44 w g cur := h6
    have HH := Lib.hid HB
    clear HB h6 R
    go_enter Try.func15, Try.ntmps15
    go_wp2_with fail
    go_loopw [1, 5] (fun kk i wr => ∃ (j : Nat) (cur' : Array Value), j ≤ ys.length ∧ i = .int .i64 j ∧ kk = .int .i64 (k + 4 * j) ∧ w.grownBy wr (some g) ∧ Box 44 wr g cur' ∧ cur'.size = cur.size ∧ ∀ q : Nat, q < j * 4 → cur'[q]? = some (markObservedF k q)) (fun _ i wr => ys.length - (intOf i).toNat)
    case atStart => exact ⟨0, cur, by omega, rfl, by simp, World.grownBy.refl _ _, HH.out, rfl, fun m hm => absurd hm (by omega)⟩
    case round =>
      obtain ⟨j, cur', hj, rfl, rfl, hgr, B, hsz, hall⟩ := hrel
      have HA := Lib.hid hall
      have HG := Lib.hid hgr
      clear hall hgr
      by_cases hlt : j < ys.length
      · have hc0 : j * 4 < cur'.size := by omega
        have c0 : wr.cell? ⟨g, j * 4, none⟩ = some cur'[j * 4] := (B.cell (j * 4)).trans (Array.getElem?_eq_getElem hc0)
        have z0 : wr.frozen? ⟨g, j * 4, none⟩ = false := B.free (j * 4)
        have hc1 : j * 4 + 1 < cur'.size := by omega
        have c1 : wr.cell? ⟨g, j * 4 + 1, none⟩ = some cur'[j * 4 + 1] := (B.cell (j * 4 + 1)).trans (Array.getElem?_eq_getElem hc1)
        have z1 : wr.frozen? ⟨g, j * 4 + 1, none⟩ = false := B.free (j * 4 + 1)
        have hc2 : j * 4 + 2 < cur'.size := by omega
        have c2 : wr.cell? ⟨g, j * 4 + 2, none⟩ = some cur'[j * 4 + 2] := (B.cell (j * 4 + 2)).trans (Array.getElem?_eq_getElem hc2)
        have z2 : wr.frozen? ⟨g, j * 4 + 2, none⟩ = false := B.free (j * 4 + 2)
        have hc3 : j * 4 + 3 < cur'.size := by omega
        have c3 : wr.cell? ⟨g, j * 4 + 3, none⟩ = some cur'[j * 4 + 3] := (B.cell (j * 4 + 3)).trans (Array.getElem?_eq_getElem hc3)
        have z3 : wr.frozen? ⟨g, j * 4 + 3, none⟩ = false := B.free (j * 4 + 3)
        have HB := Lib.hid B
        have HS := Lib.hid hsz
        clear B hsz
        go_wp2
        go_roundw
        case rel => exact ⟨j + 1, _, by omega, by go_num, by go_num, (only_set (only_set (only_set (only_set HG.out rfl _) rfl _) rfl _) rfl _), ((((HB.out.set (j * 4) _).set (j * 4 + 1) _).set (j * 4 + 2) _).set (j * 4 + 3) _), by simpa using HS.out, fun q hq => (set_uptoV (set_uptoV (set_uptoV (set_uptoV HA.out (by omega) (by rw [markObservedF_0] <;> (first | rfl | (congr 1; omega) | (congr 2; omega)))) (by simp only [Array.size_setIfInBounds]; omega) (by rw [markObservedF_1] <;> (first | rfl | (congr 1; omega) | (congr 2; omega)))) (by simp only [Array.size_setIfInBounds]; omega) (by rw [markObservedF_2] <;> (first | rfl | (congr 1; omega) | (congr 2; omega)))) (by simp only [Array.size_setIfInBounds]; omega) (by rw [markObservedF_3] <;> (first | rfl | (congr 1; omega) | (congr 2; omega)))) q (by omega)⟩
        case measure => simp [intOf]; omega
      · obtain rfl : j = ys.length := by omega
        have HB := Lib.hid B
        clear B
        go_wp2
        go_ret
        refine ⟨rfl, ⟨by rw [flat_len (sz := 4) (fun _ => rfl)], Or.inr ⟨g, cap, cur', by rw [marksObserved_len], h5, HB.out, by rw [marksObserved_len]; exact h7, h8, by rw [hsz]; exact H9.out, ?_⟩⟩, by simpa [Value.ownBlock] using HG.out⟩
        exact marksObserved_take HA.out (by omega)
theorem heldObservedS_any (A : Option Addr) (c n : Nat) (k : Int) (w : World) (S : ArgS SObserved.cells 4 w A (marksObserved k n)) (hn : n ≤ 1048576) (hk0 : 0 ≤ k) (hk1 : k ≤ 10000000) :
    Calls Try.prog 16 #[.slice A n c, .int .i64 k] w fun e w' => e = .returned (.int .i64 (k + 4 * n)) ∧ Below w.heap.size w w' := by
  have H := Lib.hid S
  clear S
  go_enter Try.func16, Try.ntmps16
  go_wp2_with fail
  go_loopw [1, 5] (fun kk i wr => ∃ m : Nat, m ≤ n ∧ i = .int .i64 m ∧ kk = .int .i64 (k + 4 * m) ∧ Below w.heap.size w wr) (fun _ i wr => n - (intOf i).toNat)
  case atStart => exact ⟨0, by omega, rfl, by simp, Below.refl _ _⟩
  case round =>
    obtain ⟨m, hm, rfl, rfl, hbel⟩ := hrel
    by_cases hlt : m < n
    · have hlm : m < (marksObserved k n).length := by rw [marksObserved_len]; exact hlt
      obtain ⟨b1, o1, rfl, a1⟩ := H.out (by omega)
      obtain ⟨e0, e1, e2, e3⟩ := SObserved.arg (a1.below hbel a1.1) hlm
      rw [marksObserved_at] at e0 e1 e2 e3
      dsimp only at e0 e1 e2 e3
      have hbl := Nat.lt_of_lt_of_le a1.1 hbel.size
      clear a1 H
      go_wp2
      go_roundw
      case rel => exact ⟨m + 1, by omega, by go_num, by go_num, hbel⟩
      case measure => simp [intOf]; omega
    · obtain rfl : m = n := by omega
      go_wp2
      go_ret
      exact ⟨rfl, hbel⟩
end Go.Proofs.Ytoiobpmpkfdidaa
