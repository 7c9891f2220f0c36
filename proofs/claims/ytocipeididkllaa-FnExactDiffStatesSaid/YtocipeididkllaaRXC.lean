/- The helpers of the laws package for rows of changes that a call makes (comparisons, marks). No condition beyond the theorems own. -/
import Derived.Test.YtocipeididkllaaLTChange
import Derived.Test.YtocipeididkllaaLTMark
namespace Go.Proofs.Ytocipeididkllaa
set_option linter.unusedSimpArgs false
set_option linter.unusedVariables false
open Go.RowKit
set_option maxHeartbeats 400000
def marksChange (k : Int) (len : Nat) : List SChange := (List.range len).map fun m : Nat => ⟨k + 3 * (m : Int), mtext (k + 3 * (m : Int) + 1), k + 3 * (m : Int) + 2⟩
theorem marksChange_len (k : Int) (n : Nat) : (marksChange k n).length = n := by simp [marksChange]
theorem marksChange_at (k : Int) (n m : Nat) (h : m < (marksChange k n).length) : (marksChange k n)[m] = ⟨k + 3 * (m : Int), mtext (k + 3 * (m : Int) + 1), k + 3 * (m : Int) + 2⟩ := by simp [marksChange]
def markChangeF (k : Int) (q : Nat) : Value := match q % 3 with
  | 0 => .int .i64 (k + 3 * ((q / 3 : Nat) : Int))
  | 1 => .string (mtext (k + 3 * ((q / 3 : Nat) : Int) + 1))
  | _ => .int .i64 (k + 3 * ((q / 3 : Nat) : Int) + 2)
theorem markChangeF_0 (k : Int) (m : Nat) : markChangeF k (m * 3) = .int .i64 (k + 3 * (m : Int)) := by
  have h1 : (m * 3) % 3 = 0 := by omega
  have h2 : (m * 3) / 3 = m := by omega
  unfold markChangeF; rw [h1, h2]; rfl
theorem markChangeF_1 (k : Int) (m : Nat) : markChangeF k (m * 3 + 1) = .string (mtext (k + 3 * (m : Int) + 1)) := by
  have h1 : (m * 3 + 1) % 3 = 1 := by omega
  have h2 : (m * 3 + 1) / 3 = m := by omega
  unfold markChangeF; rw [h1, h2]; rfl
theorem markChangeF_2 (k : Int) (m : Nat) : markChangeF k (m * 3 + 2) = .int .i64 (k + 3 * (m : Int) + 2) := by
  have h1 : (m * 3 + 2) % 3 = 2 := by omega
  have h2 : (m * 3 + 2) / 3 = m := by omega
  unfold markChangeF; rw [h1, h2]; rfl
theorem marksChange_take {cur : Array Value} {k : Int} {n : Nat} (h : ∀ q : Nat, q < n * 3 → cur[q]? = some (markChangeF k q)) (hn : n * 3 ≤ cur.size) :
    cur.toList.take ((marksChange k n).length * 3) = (marksChange k n).flatMap SChange.cells := by
  apply List.ext_getElem?
  intro i
  rw [marksChange_len, List.getElem?_take]
  by_cases hi : i < n * 3
  · rw [if_pos hi]
    have hm : i / 3 < (marksChange k n).length := by rw [marksChange_len]; omega
    have key : ∀ v, (SChange.cells (marksChange k n)[i / 3])[i % 3]? = some v → ((marksChange k n).flatMap SChange.cells)[i]? = some v := fun v hv => by
      have h1 := flat_at (cs := SChange.cells) (sz := 3) (fun _ => rfl) (marksChange k n) (i / 3) hm (i % 3) v hv
      rwa [show i / 3 * 3 + i % 3 = i by omega] at h1
    have h2 := h i hi
    rw [Array.getElem?_toList] 
    rw [h2]
    refine (key _ ?_).symm
    rw [marksChange_at]
    have hc : i % 3 = 0 ∨ i % 3 = 1 ∨ i % 3 = 2 := by omega
    rcases hc with hc | hc | hc <;> (unfold markChangeF; rw [hc]; rfl)
  · rw [if_neg hi, List.getElem?_eq_none]
    rw [flat_len (sz := 3) (fun _ => rfl), marksChange_len]; omega
theorem eqChangeS_arg (A1 A2 : Option Addr) (c1 c2 : Nat) (xs : List SChange) (w : World) (S1 : ArgS SChange.cells 3 w A1 xs) (S2 : ArgS SChange.cells 3 w A2 xs) (hn : xs.length ≤ 1048576) :
    Calls Try.prog 23 #[.slice A1 xs.length c1, .slice A2 xs.length c2] w fun e w' => e = .returned (.bool true) ∧ Below w.heap.size w w' := by
  have H1 := Lib.hid S1
  have H2 := Lib.hid S2
  clear S1 S2
  go_enter Try.func23, Try.ntmps23
  go_wp2_with fail
  go_loopw [5] (fun i wr => ∃ k : Nat, k ≤ xs.length ∧ i = .int .i64 k ∧ Below w.heap.size w wr) (fun i wr => xs.length - (intOf i).toNat)
  case atStart => exact ⟨0, by omega, rfl, (by repeat (first | (with_reducible assumption) | (with_reducible exact Below.refl _ _) | (with_reducible refine Bel.alloc ?_ _) | (with_reducible refine Below.drew ?_) | (with_reducible refine Bel.drewN ?_ _) | (with_reducible refine Bel.setCell ?_ (by (try simp) <;> omega) _) | (with_reducible refine Bel.trans ?_ (by assumption))))⟩
  case round =>
    obtain ⟨k, hk, rfl, hbel⟩ := hrel
    by_cases hlt : k < xs.length
    · obtain ⟨b1, o1, rfl, a1⟩ := H1.out (by omega)
      obtain ⟨b2, o2, rfl, a2⟩ := H2.out (by omega)
      have hs := hbel.size
      have hb1 := Nat.lt_of_lt_of_le a1.1 hs
      have hb2 := Nat.lt_of_lt_of_le a2.1 hs
      obtain ⟨d0, d1, d2⟩ := SChange.arg (a1.below hbel a1.1) hlt
      obtain ⟨g0, g1, g2⟩ := SChange.arg (a2.below hbel a2.1) hlt
      have p0 := Past.cell d0 hb1
      have q0 := Past.cell g0 hb2
      have p1 := Past.cell d1 hb1
      have q1 := Past.cell g1 hb2
      have p2 := Past.cell d2 hb1
      have q2 := Past.cell g2 hb2
      clear a1 a2 H1 H2 d0 g0 d1 g1 d2 g2
      go_wp2_with fail
      refine wp_region_past (by kernel_rfl) (by kernel_rfl) ?_
      repeat (go_big_quiet_step ((go_at_call 49; exact Past.call _ (eqChange_any xs[k] _))))
      refine wpQuiet_nil ?_
      intro W1 hw'
      obtain ⟨⟨W_, hbx⟩, hw''⟩ := hw'
      subst hw''
      go_wp2
      go_roundw
      case rel => exact ⟨k + 1, by omega, by go_num, Bel.trans hbel hbx⟩
      case measure => simp [intOf]; omega
    · obtain rfl : k = xs.length := by omega
      go_wp2
      go_ret
      exact ⟨rfl, hbel⟩
theorem markChangeS_row (v : Value) (ys : List SChange) (k : Int) (base : Nat) (w : World) (R : Row SChange.cells 3 80 w base v ys) (hn : ys.length ≤ 1048576) (hk0 : 0 ≤ k) (hk1 : k ≤ 10000000) :
    Calls Try.prog 26 #[v, .int .i64 k] w fun e w' => e = .returned (.int .i64 (k + 3 * ys.length)) ∧ Row SChange.cells 3 80 w' base v (marksChange k ys.length) ∧ w.grownBy w' v.ownBlock := by
  rcases R.2 with ⟨h3, h4⟩ | ⟨g, cap, cur, h3, h5, h6, h7, h8, h9, h10⟩
  · subst h3
    obtain rfl : ys = [] := List.eq_nil_of_length_eq_zero h4
    go_enter Try.func26, Try.ntmps26
    go_wp2_with fail
    go_loopw [1, 5] (fun kk i wr => kk = .int .i64 k ∧ i = .int .i64 0 ∧ wr = w) (fun _ i wr => 0)
    case atStart => exact ⟨rfl, rfl, rfl⟩
    case round =>
      obtain ⟨rfl, rfl, rfl⟩ := hrel
      go_wp2
      go_ret
      exact ⟨ret_int (by simp), ⟨by simp [marksChange], Or.inl ⟨rfl, by simp [marksChange]⟩⟩, World.grownBy.refl _ _⟩
  · subst h3
    have hcap : ys.length * 3 ≤ cur.size := by have := Nat.mul_le_mul_right 3 h7; omega
    have H9 := Lib.hid h9
    clear h9 h10
    have HB : Box 80 w g cur := h6
    have HH := Lib.hid HB
    clear HB h6 R
    go_enter Try.func26, Try.ntmps26
    go_wp2_with fail
    go_loopw [1, 5] (fun kk i wr => ∃ (j : Nat) (cur' : Array Value), j ≤ ys.length ∧ i = .int .i64 j ∧ kk = .int .i64 (k + 3 * j) ∧ w.grownBy wr (some g) ∧ Box 80 wr g cur' ∧ cur'.size = cur.size ∧ ∀ q : Nat, q < j * 3 → cur'[q]? = some (markChangeF k q)) (fun _ i wr => ys.length - (intOf i).toNat)
    case atStart => exact ⟨0, cur, by omega, rfl, by simp, World.grownBy.refl _ _, HH.out, rfl, fun m hm => absurd hm (by omega)⟩
    case round =>
      obtain ⟨j, cur', hj, rfl, rfl, hgr, B, hsz, hall⟩ := hrel
      have HA := Lib.hid hall
      have HG := Lib.hid hgr
      clear hall hgr
      by_cases hlt : j < ys.length
      · have hc0 : j * 3 < cur'.size := by omega
        have c0 : wr.cell? ⟨g, j * 3, none⟩ = some cur'[j * 3] := (B.cell (j * 3)).trans (Array.getElem?_eq_getElem hc0)
        have z0 : wr.frozen? ⟨g, j * 3, none⟩ = false := B.free (j * 3)
        have hc1 : j * 3 + 1 < cur'.size := by omega
        have c1 : wr.cell? ⟨g, j * 3 + 1, none⟩ = some cur'[j * 3 + 1] := (B.cell (j * 3 + 1)).trans (Array.getElem?_eq_getElem hc1)
        have z1 : wr.frozen? ⟨g, j * 3 + 1, none⟩ = false := B.free (j * 3 + 1)
        have hc2 : j * 3 + 2 < cur'.size := by omega
        have c2 : wr.cell? ⟨g, j * 3 + 2, none⟩ = some cur'[j * 3 + 2] := (B.cell (j * 3 + 2)).trans (Array.getElem?_eq_getElem hc2)
        have z2 : wr.frozen? ⟨g, j * 3 + 2, none⟩ = false := B.free (j * 3 + 2)
        have HB := Lib.hid B
        have HS := Lib.hid hsz
        clear B hsz
        have hk3 : k + 3 * (j : Int) ≤ 1000000000 - 3 := by omega
        have B1 := HB.out.set (j * 3) (.int .i64 (k + 3 * (j : Int)))
        have HB1 := Lib.hid B1
        have HG1 := Lib.hid (only_set HG.out (p := ⟨g, j * 3, none⟩) rfl (.int .i64 (k + 3 * (j : Int))))
        clear B1
        go_wp2_with (go_at_call 51; go_loud (generalize wr.setCell ⟨g, j * 3, none⟩ (.int .i64 (k + 3 * (j : Int))) = wq at HB1 HG1 ⊢); go_loud (refine (markText_is _ _ (by omega) (by omega)).mono ?_); rintro e w2 ⟨rfl, hb2⟩; go_loud (have B2 := HB1.out.below hb2; have hq1 : j * 3 + 1 < (cur'.setIfInBounds (j * 3) (.int .i64 (k + 3 * (j : Int)))).size := (by first | exact hc1 | simpa using hc1 | omega); have hq2 : j * 3 + 2 < (cur'.setIfInBounds (j * 3) (.int .i64 (k + 3 * (j : Int)))).size := (by first | exact hc2 | simpa using hc2 | omega); have d1 := (B2.cell (j * 3 + 1)).trans (Array.getElem?_eq_getElem hq1); have d2 := (B2.cell (j * 3 + 2)).trans (Array.getElem?_eq_getElem hq2); have y1 : w2.frozen? ⟨g, j * 3 + 1, none⟩ = false := B2.free (j * 3 + 1); have y2 : w2.frozen? ⟨g, j * 3 + 2, none⟩ = false := B2.free (j * 3 + 2); have d3 : w2.cell? ⟨g, j * 3 + 1 + 1, none⟩ = _ := d2; have y3 : w2.frozen? ⟨g, j * 3 + 1 + 1, none⟩ = false := y2; have HB2 := Lib.hid B2; have HG2 := Lib.hid (HG1.out.trans (grown_of_below hb2 _)); clear B2))
        go_roundw
        case rel => exact ⟨j + 1, _, by omega, by go_num, by go_num, only_set (only_set HG2.out rfl _) rfl _, (HB2.out.set (j * 3 + 1) _).set (j * 3 + 2) _, by simpa using HS.out, fun q hq => (set_uptoV (set_uptoV (set_uptoV HA.out (by omega) (by rw [markChangeF_0] <;> (first | rfl | (congr 1; omega) | (congr 2; omega)))) (by simp only [Array.size_setIfInBounds]; omega) (by rw [markChangeF_1] <;> (first | rfl | (congr 1; omega) | (congr 2; omega)))) (by simp only [Array.size_setIfInBounds]; omega) (by rw [markChangeF_2] <;> (first | rfl | (congr 1; omega) | (congr 2; omega)))) q (by omega)⟩
        case measure => simp [intOf]; omega
      · obtain rfl : j = ys.length := by omega
        have HB := Lib.hid B
        clear B
        go_wp2
        go_ret
        refine ⟨rfl, ⟨by rw [flat_len (sz := 3) (fun _ => rfl)], Or.inr ⟨g, cap, cur', by rw [marksChange_len], h5, HB.out, by rw [marksChange_len]; exact h7, h8, by rw [hsz]; exact H9.out, ?_⟩⟩, by simpa [Value.ownBlock] using HG.out⟩
        exact marksChange_take HA.out (by omega)
theorem heldChangeS_any (A : Option Addr) (c n : Nat) (k : Int) (w : World) (S : ArgS SChange.cells 3 w A (marksChange k n)) (hn : n ≤ 1048576) (hk0 : 0 ≤ k) (hk1 : k ≤ 10000000) :
    Calls Try.prog 27 #[.slice A n c, .int .i64 k] w fun e w' => e = .returned (.int .i64 (k + 3 * n)) ∧ Below w.heap.size w w' := by
  have H := Lib.hid S
  clear S
  go_enter Try.func27, Try.ntmps27
  go_wp2_with fail
  go_loopw [1, 5] (fun kk i wr => ∃ m : Nat, m ≤ n ∧ i = .int .i64 m ∧ kk = .int .i64 (k + 3 * m) ∧ Below w.heap.size w wr) (fun _ i wr => n - (intOf i).toNat)
  case atStart => exact ⟨0, by omega, rfl, by simp, Below.refl _ _⟩
  case round =>
    obtain ⟨m, hm, rfl, rfl, hbel⟩ := hrel
    by_cases hlt : m < n
    · have hlm : m < (marksChange k n).length := by rw [marksChange_len]; exact hlt
      obtain ⟨b1, o1, rfl, a1⟩ := H.out (by omega)
      obtain ⟨e0, e1, e2⟩ := SChange.arg (a1.below hbel a1.1) hlm
      rw [marksChange_at] at e0 e1 e2
      dsimp only at e0 e1 e2
      have hbl := Nat.lt_of_lt_of_le a1.1 hbel.size
      have q0 := Past.cell e1 hbl
      clear a1 H
      go_wp2_with fail
      refine wp_region_past (by kernel_rfl) (by kernel_rfl) ?_
      repeat (go_big_quiet_step ((go_at_call 51; exact Past.call _ (markText_is _ _ (by omega) (by omega)))))
      refine wpQuiet_nil ?_
      intro W1 hw'
      obtain ⟨⟨W_, hbx⟩, hw''⟩ := hw'
      subst hw''
      clear q0
      have e0 := (hbx.cell (p := ⟨b1, o1 + m * 3, none⟩) hbl).trans e0
      have e1 := (hbx.cell (p := ⟨b1, o1 + m * 3 + 1, none⟩) hbl).trans e1
      have e2 := (hbx.cell (p := ⟨b1, o1 + m * 3 + 2, none⟩) hbl).trans e2
      have hbel := Bel.trans hbel hbx
      go_wp2
      go_roundw
      case rel => exact ⟨m + 1, by omega, by go_num, by go_num, hbel⟩
      case measure => simp [intOf]; omega
    · obtain rfl : m = n := by omega
      go_wp2
      go_ret
      exact ⟨rfl, hbel⟩
end Go.Proofs.Ytocipeididkllaa
