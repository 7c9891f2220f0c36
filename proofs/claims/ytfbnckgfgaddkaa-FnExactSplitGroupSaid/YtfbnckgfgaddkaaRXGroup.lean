/- The helpers of the laws package for rows of the type Group that a call makes (comparisons, marks). No condition beyond the theorems own. -/
import Derived.Test.YtfbnckgfgaddkaaLTGroup
import Derived.Test.YtfbnckgfgaddkaaLTMark
namespace Go.Proofs.Ytfbnckgfgaddkaa
set_option linter.unusedSimpArgs false
set_option linter.unusedVariables false
open Go.RowKit
set_option maxHeartbeats 400000
def marksGroup (k : Int) (len : Nat) : List SGroup := (List.range len).map fun m : Nat => ⟨mtext (k + 7 * (m : Int)), k + 7 * (m : Int) + 1, k + 7 * (m : Int) + 2, k + 7 * (m : Int) + 3, k + 7 * (m : Int) + 4, k + 7 * (m : Int) + 5, k + 7 * (m : Int) + 6⟩
theorem marksGroup_len (k : Int) (n : Nat) : (marksGroup k n).length = n := by simp [marksGroup]
theorem marksGroup_at (k : Int) (n m : Nat) (h : m < (marksGroup k n).length) : (marksGroup k n)[m] = ⟨mtext (k + 7 * (m : Int)), k + 7 * (m : Int) + 1, k + 7 * (m : Int) + 2, k + 7 * (m : Int) + 3, k + 7 * (m : Int) + 4, k + 7 * (m : Int) + 5, k + 7 * (m : Int) + 6⟩ := by simp [marksGroup]
def markGroupF (k : Int) (q : Nat) : Value := match q % 7 with
  | 0 => .string (mtext (k + 7 * ((q / 7 : Nat) : Int)))
  | 1 => .int .i64 (k + 7 * ((q / 7 : Nat) : Int) + 1)
  | 2 => .int .i64 (k + 7 * ((q / 7 : Nat) : Int) + 2)
  | 3 => .int .i64 (k + 7 * ((q / 7 : Nat) : Int) + 3)
  | 4 => .int .i64 (k + 7 * ((q / 7 : Nat) : Int) + 4)
  | 5 => .int .i64 (k + 7 * ((q / 7 : Nat) : Int) + 5)
  | _ => .int .i64 (k + 7 * ((q / 7 : Nat) : Int) + 6)
theorem markGroupF_0 (k : Int) (m : Nat) : markGroupF k (m * 7) = .string (mtext (k + 7 * (m : Int))) := by
  have h1 : (m * 7) % 7 = 0 := by omega
  have h2 : (m * 7) / 7 = m := by omega
  unfold markGroupF; rw [h1, h2]; rfl
theorem markGroupF_1 (k : Int) (m : Nat) : markGroupF k (m * 7 + 1) = .int .i64 (k + 7 * (m : Int) + 1) := by
  have h1 : (m * 7 + 1) % 7 = 1 := by omega
  have h2 : (m * 7 + 1) / 7 = m := by omega
  unfold markGroupF; rw [h1, h2]; rfl
theorem markGroupF_2 (k : Int) (m : Nat) : markGroupF k (m * 7 + 2) = .int .i64 (k + 7 * (m : Int) + 2) := by
  have h1 : (m * 7 + 2) % 7 = 2 := by omega
  have h2 : (m * 7 + 2) / 7 = m := by omega
  unfold markGroupF; rw [h1, h2]; rfl
theorem markGroupF_3 (k : Int) (m : Nat) : markGroupF k (m * 7 + 3) = .int .i64 (k + 7 * (m : Int) + 3) := by
  have h1 : (m * 7 + 3) % 7 = 3 := by omega
  have h2 : (m * 7 + 3) / 7 = m := by omega
  unfold markGroupF; rw [h1, h2]; rfl
theorem markGroupF_4 (k : Int) (m : Nat) : markGroupF k (m * 7 + 4) = .int .i64 (k + 7 * (m : Int) + 4) := by
  have h1 : (m * 7 + 4) % 7 = 4 := by omega
  have h2 : (m * 7 + 4) / 7 = m := by omega
  unfold markGroupF; rw [h1, h2]; rfl
theorem markGroupF_5 (k : Int) (m : Nat) : markGroupF k (m * 7 + 5) = .int .i64 (k + 7 * (m : Int) + 5) := by
  have h1 : (m * 7 + 5) % 7 = 5 := by omega
  have h2 : (m * 7 + 5) / 7 = m := by omega
  unfold markGroupF; rw [h1, h2]; rfl
theorem markGroupF_6 (k : Int) (m : Nat) : markGroupF k (m * 7 + 6) = .int .i64 (k + 7 * (m : Int) + 6) := by
  have h1 : (m * 7 + 6) % 7 = 6 := by omega
  have h2 : (m * 7 + 6) / 7 = m := by omega
  unfold markGroupF; rw [h1, h2]; rfl
theorem marksGroup_take {cur : Array Value} {k : Int} {n : Nat} (h : ∀ q : Nat, q < n * 7 → cur[q]? = some (markGroupF k q)) (hn : n * 7 ≤ cur.size) :
    cur.toList.take ((marksGroup k n).length * 7) = (marksGroup k n).flatMap SGroup.cells := by
  apply List.ext_getElem?
  intro i
  rw [marksGroup_len, List.getElem?_take]
  by_cases hi : i < n * 7
  · rw [if_pos hi]
    have hm : i / 7 < (marksGroup k n).length := by rw [marksGroup_len]; omega
    have key : ∀ v, (SGroup.cells (marksGroup k n)[i / 7])[i % 7]? = some v → ((marksGroup k n).flatMap SGroup.cells)[i]? = some v := fun v hv => by
      have h1 := flat_at (cs := SGroup.cells) (sz := 7) (fun _ => rfl) (marksGroup k n) (i / 7) hm (i % 7) v hv
      rwa [show i / 7 * 7 + i % 7 = i by omega] at h1
    have h2 := h i hi
    rw [Array.getElem?_toList] 
    rw [h2]
    refine (key _ ?_).symm
    rw [marksGroup_at]
    have hc : i % 7 = 0 ∨ i % 7 = 1 ∨ i % 7 = 2 ∨ i % 7 = 3 ∨ i % 7 = 4 ∨ i % 7 = 5 ∨ i % 7 = 6 := by omega
    rcases hc with hc | hc | hc | hc | hc | hc | hc <;> (unfold markGroupF; rw [hc]; rfl)
  · rw [if_neg hi, List.getElem?_eq_none]
    rw [flat_len (sz := 7) (fun _ => rfl), marksGroup_len]; omega
theorem eqGroupS_arg (A1 A2 : Option Addr) (c1 c2 : Nat) (xs : List SGroup) (w : World) (S1 : ArgS SGroup.cells 7 w A1 xs) (S2 : ArgS SGroup.cells 7 w A2 xs) (hn : xs.length ≤ 1048576) :
    Calls Try.prog 14 #[.slice A1 xs.length c1, .slice A2 xs.length c2] w fun e w' => e = .returned (.bool true) ∧ Below w.heap.size w w' := by
  have H1 := Lib.hid S1
  have H2 := Lib.hid S2
  clear S1 S2
  go_enter Try.func14, Try.ntmps14
  go_wp2_with fail
  go_loopw [5] (fun i wr => ∃ k : Nat, k ≤ xs.length ∧ i = .int .i64 k ∧ Below w.heap.size w wr) (fun i wr => xs.length - (intOf i).toNat)
  case atStart => exact ⟨0, by omega, rfl, (by repeat (first | (with_reducible assumption) | (with_reducible exact Below.refl _ _) | (with_reducible refine Bel.alloc ?_ _) | (with_reducible refine Below.drew ?_) | (with_reducible refine Bel.drewN ?_ _) | (with_reducible refine Bel.setCell ?_ (by (try simp) <;> omega) _) | (with_reducible refine Bel.trans ?_ (by assumption))))⟩
  case round =>
    obtain ⟨k, hk, rfl, hbel⟩ := hrel
    by_cases hlt : k < xs.length
    · obtain ⟨b1, o1, rfl, a1⟩ := H1.out (by omega)
      obtain ⟨b2, o2, rfl, a2⟩ := H2.out (by omega)
      have hs := hbel.size
      have hb1 := Nat.lt_of_lt_of_le a1.1 hs
      have hb2 := Nat.lt_of_lt_of_le a2.1 hs
      obtain ⟨d0, d1, d2, d3, d4, d5, d6⟩ := SGroup.arg (a1.below hbel a1.1) hlt
      obtain ⟨g0, g1, g2, g3, g4, g5, g6⟩ := SGroup.arg (a2.below hbel a2.1) hlt
      have p0 := Past.cell d0 hb1
      have q0 := Past.cell g0 hb2
      have p1 := Past.cell d1 hb1
      have q1 := Past.cell g1 hb2
      have p2 := Past.cell d2 hb1
      have q2 := Past.cell g2 hb2
      have p3 := Past.cell d3 hb1
      have q3 := Past.cell g3 hb2
      have p4 := Past.cell d4 hb1
      have q4 := Past.cell g4 hb2
      have p5 := Past.cell d5 hb1
      have q5 := Past.cell g5 hb2
      have p6 := Past.cell d6 hb1
      have q6 := Past.cell g6 hb2
      clear a1 a2 H1 H2 d0 g0 d1 g1 d2 g2 d3 g3 d4 g4 d5 g5 d6 g6
      go_wp2_with fail
      refine wp_region_past (by kernel_rfl) (by kernel_rfl) ?_
      repeat (go_big_quiet_step ((go_at_call 29; exact Past.call _ (eqGroup_any xs[k] _))))
      refine wpQuiet_nil ?_
      intro W1 hw'
      obtain ⟨⟨W_, hbx⟩, hw''⟩ := hw'
      subst hw''
      go_wp2
      go_roundw
      case rel => exact ⟨k + 1, by omega, by go_num, Bel.trans hbel hbx⟩
      case measure => simp [intOf]; omega
    · obtain rfl : k = xs.length := by omega
      go_wp2
      go_ret
      exact ⟨rfl, hbel⟩
theorem markGroupS_row (v : Value) (ys : List SGroup) (k : Int) (base : Nat) (w : World) (R : Row SGroup.cells 7 35 w base v ys) (hn : ys.length ≤ 1048576) (hk0 : 0 ≤ k) (hk1 : k ≤ 10000000) :
    Calls Try.prog 15 #[v, .int .i64 k] w fun e w' => e = .returned (.int .i64 (k + 7 * ys.length)) ∧ Row SGroup.cells 7 35 w' base v (marksGroup k ys.length) ∧ w.grownBy w' v.ownBlock := by
  rcases R.2 with ⟨h3, h4⟩ | ⟨g, cap, cur, h3, h5, h6, h7, h8, h9, h10⟩
  · subst h3
    obtain rfl : ys = [] := List.eq_nil_of_length_eq_zero h4
    go_enter Try.func15, Try.ntmps15
    go_wp2_with fail
    go_loopw [1, 5] (fun kk i wr => kk = .int .i64 k ∧ i = .int .i64 0 ∧ wr = w) (fun _ i wr => 0)
    case atStart => exact ⟨rfl, rfl, rfl⟩
    case round =>
      obtain ⟨rfl, rfl, rfl⟩ := hrel
      go_wp2
      go_ret
      exact ⟨ret_int (by simp), ⟨by simp [marksGroup], Or.inl ⟨rfl, by simp [marksGroup]⟩⟩, World.grownBy.refl _ _⟩
  · subst h3
    have hcap : ys.length * 7 ≤ cur.size := by have := Nat.mul_le_mul_right 7 h7; omega
    have H9 := Lib.hid h9
    clear h9 h10
    have HB : Box 35 w g cur := h6
    have HH := Lib.hid HB
    clear HB h6 R
    go_enter Try.func15, Try.ntmps15
    go_wp2_with fail
    go_loopw [1, 5] (fun kk i wr => ∃ (j : Nat) (cur' : Array Value), j ≤ ys.length ∧ i = .int .i64 j ∧ kk = .int .i64 (k + 7 * j) ∧ w.grownBy wr (some g) ∧ Box 35 wr g cur' ∧ cur'.size = cur.size ∧ ∀ q : Nat, q < j * 7 → cur'[q]? = some (markGroupF k q)) (fun _ i wr => ys.length - (intOf i).toNat)
    case atStart => exact ⟨0, cur, by omega, rfl, by simp, World.grownBy.refl _ _, HH.out, rfl, fun m hm => absurd hm (by omega)⟩
    case round =>
      obtain ⟨j, cur', hj, rfl, rfl, hgr, B, hsz, hall⟩ := hrel
      have HA := Lib.hid hall
      have HG := Lib.hid hgr
      clear hall hgr
      by_cases hlt : j < ys.length
      · have hc0 : j * 7 < cur'.size := by omega
        have c0 : wr.cell? ⟨g, j * 7, none⟩ = some cur'[j * 7] := (B.cell (j * 7)).trans (Array.getElem?_eq_getElem hc0)
        have z0 : wr.frozen? ⟨g, j * 7, none⟩ = false := B.free (j * 7)
        have hc1 : j * 7 + 1 < cur'.size := by omega
        have c1 : wr.cell? ⟨g, j * 7 + 1, none⟩ = some cur'[j * 7 + 1] := (B.cell (j * 7 + 1)).trans (Array.getElem?_eq_getElem hc1)
        have z1 : wr.frozen? ⟨g, j * 7 + 1, none⟩ = false := B.free (j * 7 + 1)
        have hc2 : j * 7 + 2 < cur'.size := by omega
        have c2 : wr.cell? ⟨g, j * 7 + 2, none⟩ = some cur'[j * 7 + 2] := (B.cell (j * 7 + 2)).trans (Array.getElem?_eq_getElem hc2)
        have z2 : wr.frozen? ⟨g, j * 7 + 2, none⟩ = false := B.free (j * 7 + 2)
        have hc3 : j * 7 + 3 < cur'.size := by omega
        have c3 : wr.cell? ⟨g, j * 7 + 3, none⟩ = some cur'[j * 7 + 3] := (B.cell (j * 7 + 3)).trans (Array.getElem?_eq_getElem hc3)
        have z3 : wr.frozen? ⟨g, j * 7 + 3, none⟩ = false := B.free (j * 7 + 3)
        have hc4 : j * 7 + 4 < cur'.size := by omega
        have c4 : wr.cell? ⟨g, j * 7 + 4, none⟩ = some cur'[j * 7 + 4] := (B.cell (j * 7 + 4)).trans (Array.getElem?_eq_getElem hc4)
        have z4 : wr.frozen? ⟨g, j * 7 + 4, none⟩ = false := B.free (j * 7 + 4)
        have hc5 : j * 7 + 5 < cur'.size := by omega
        have c5 : wr.cell? ⟨g, j * 7 + 5, none⟩ = some cur'[j * 7 + 5] := (B.cell (j * 7 + 5)).trans (Array.getElem?_eq_getElem hc5)
        have z5 : wr.frozen? ⟨g, j * 7 + 5, none⟩ = false := B.free (j * 7 + 5)
        have hc6 : j * 7 + 6 < cur'.size := by omega
        have c6 : wr.cell? ⟨g, j * 7 + 6, none⟩ = some cur'[j * 7 + 6] := (B.cell (j * 7 + 6)).trans (Array.getElem?_eq_getElem hc6)
        have z6 : wr.frozen? ⟨g, j * 7 + 6, none⟩ = false := B.free (j * 7 + 6)
        have HB := Lib.hid B
        have HS := Lib.hid hsz
        clear B hsz
        go_wp2_with (go_at_call 30; refine (markText_is _ _ (by omega) (by omega)).mono ?_; rintro e w2 ⟨rfl, hb2⟩; have hpl := HB.out.lt; have c0 := (hb2.cell (p := ⟨g, j * 7, none⟩) hpl).trans c0; have z0 := (hb2.frozen (p := ⟨g, j * 7, none⟩) hpl).trans z0; have c1 := (hb2.cell (p := ⟨g, j * 7 + 1, none⟩) hpl).trans c1; have z1 := (hb2.frozen (p := ⟨g, j * 7 + 1, none⟩) hpl).trans z1; have c2 := (hb2.cell (p := ⟨g, j * 7 + 2, none⟩) hpl).trans c2; have z2 := (hb2.frozen (p := ⟨g, j * 7 + 2, none⟩) hpl).trans z2; have c3 := (hb2.cell (p := ⟨g, j * 7 + 3, none⟩) hpl).trans c3; have z3 := (hb2.frozen (p := ⟨g, j * 7 + 3, none⟩) hpl).trans z3; have c4 := (hb2.cell (p := ⟨g, j * 7 + 4, none⟩) hpl).trans c4; have z4 := (hb2.frozen (p := ⟨g, j * 7 + 4, none⟩) hpl).trans z4; have c5 := (hb2.cell (p := ⟨g, j * 7 + 5, none⟩) hpl).trans c5; have z5 := (hb2.frozen (p := ⟨g, j * 7 + 5, none⟩) hpl).trans z5; have c6 := (hb2.cell (p := ⟨g, j * 7 + 6, none⟩) hpl).trans c6; have z6 := (hb2.frozen (p := ⟨g, j * 7 + 6, none⟩) hpl).trans z6)
        go_roundw
        case rel => exact ⟨j + 1, _, by omega, by go_num, by go_num, (only_set (only_set (only_set (only_set (only_set (only_set (only_set (HG.out.trans (grown_of_below hb2 _)) rfl _) rfl _) rfl _) rfl _) rfl _) rfl _) rfl _), ((((((((HB.out.below hb2).set (j * 7) _).set (j * 7 + 1) _).set (j * 7 + 2) _).set (j * 7 + 3) _).set (j * 7 + 4) _).set (j * 7 + 5) _).set (j * 7 + 6) _), by simpa using HS.out, fun q hq => (set_uptoV (set_uptoV (set_uptoV (set_uptoV (set_uptoV (set_uptoV (set_uptoV HA.out (by omega) (by rw [markGroupF_0] <;> (first | rfl | (congr 1; omega) | (congr 2; omega)))) (by simp only [Array.size_setIfInBounds]; omega) (by rw [markGroupF_1] <;> (first | rfl | (congr 1; omega) | (congr 2; omega)))) (by simp only [Array.size_setIfInBounds]; omega) (by rw [markGroupF_2] <;> (first | rfl | (congr 1; omega) | (congr 2; omega)))) (by simp only [Array.size_setIfInBounds]; omega) (by rw [markGroupF_3] <;> (first | rfl | (congr 1; omega) | (congr 2; omega)))) (by simp only [Array.size_setIfInBounds]; omega) (by rw [markGroupF_4] <;> (first | rfl | (congr 1; omega) | (congr 2; omega)))) (by simp only [Array.size_setIfInBounds]; omega) (by rw [markGroupF_5] <;> (first | rfl | (congr 1; omega) | (congr 2; omega)))) (by simp only [Array.size_setIfInBounds]; omega) (by rw [markGroupF_6] <;> (first | rfl | (congr 1; omega) | (congr 2; omega)))) q (by omega)⟩
        case measure => simp [intOf]; omega
      · obtain rfl : j = ys.length := by omega
        have HB := Lib.hid B
        clear B
        go_wp2
        go_ret
        refine ⟨rfl, ⟨by rw [flat_len (sz := 7) (fun _ => rfl)], Or.inr ⟨g, cap, cur', by rw [marksGroup_len], h5, HB.out, by rw [marksGroup_len]; exact h7, h8, by rw [hsz]; exact H9.out, ?_⟩⟩, by simpa [Value.ownBlock] using HG.out⟩
        exact marksGroup_take HA.out (by omega)
theorem heldGroupS_any (A : Option Addr) (c n : Nat) (k : Int) (w : World) (S : ArgS SGroup.cells 7 w A (marksGroup k n)) (hn : n ≤ 1048576) (hk0 : 0 ≤ k) (hk1 : k ≤ 10000000) :
    Calls Try.prog 16 #[.slice A n c, .int .i64 k] w fun e w' => e = .returned (.int .i64 (k + 7 * n)) ∧ Below w.heap.size w w' := by
  have H := Lib.hid S
  clear S
  go_enter Try.func16, Try.ntmps16
  go_wp2_with fail
  go_loopw [1, 5] (fun kk i wr => ∃ m : Nat, m ≤ n ∧ i = .int .i64 m ∧ kk = .int .i64 (k + 7 * m) ∧ Below w.heap.size w wr) (fun _ i wr => n - (intOf i).toNat)
  case atStart => exact ⟨0, by omega, rfl, by simp, Below.refl _ _⟩
  case round =>
    obtain ⟨m, hm, rfl, rfl, hbel⟩ := hrel
    by_cases hlt : m < n
    · have hlm : m < (marksGroup k n).length := by rw [marksGroup_len]; exact hlt
      obtain ⟨b1, o1, rfl, a1⟩ := H.out (by omega)
      obtain ⟨e0, e1, e2, e3, e4, e5, e6⟩ := SGroup.arg (a1.below hbel a1.1) hlm
      rw [marksGroup_at] at e0 e1 e2 e3 e4 e5 e6
      dsimp only at e0 e1 e2 e3 e4 e5 e6
      have hbl := Nat.lt_of_lt_of_le a1.1 hbel.size
      have q0 := Past.cell e0 hbl
      clear a1 H
      go_wp2_with fail
      refine wp_region_past (by kernel_rfl) (by kernel_rfl) ?_
      repeat (go_big_quiet_step ((go_at_call 30; exact Past.call _ (markText_is _ _ (by omega) (by omega)))))
      refine wpQuiet_nil ?_
      intro W1 hw'
      obtain ⟨⟨W_, hbx⟩, hw''⟩ := hw'
      subst hw''
      clear q0
      have e0 := (hbx.cell (p := ⟨b1, o1 + m * 7, none⟩) hbl).trans e0
      have e1 := (hbx.cell (p := ⟨b1, o1 + m * 7 + 1, none⟩) hbl).trans e1
      have e2 := (hbx.cell (p := ⟨b1, o1 + m * 7 + 2, none⟩) hbl).trans e2
      have e3 := (hbx.cell (p := ⟨b1, o1 + m * 7 + 3, none⟩) hbl).trans e3
      have e4 := (hbx.cell (p := ⟨b1, o1 + m * 7 + 4, none⟩) hbl).trans e4
      have e5 := (hbx.cell (p := ⟨b1, o1 + m * 7 + 5, none⟩) hbl).trans e5
      have e6 := (hbx.cell (p := ⟨b1, o1 + m * 7 + 6, none⟩) hbl).trans e6
      have hbel := Bel.trans hbel hbx
      go_wp2
      go_roundw
      case rel => exact ⟨m + 1, by omega, by go_num, by go_num, hbel⟩
      case measure => simp [intOf]; omega
    · obtain rfl : m = n := by omega
      go_wp2
      go_ret
      exact ⟨rfl, hbel⟩
end Go.Proofs.Ytfbnckgfgaddkaa
