/- Chapter 12: the two drawing functions that the law of growth calls. -/
import Derived.Test.YtcjalooaikfkbaaL12x
namespace Go.Proofs.Ytcjalooaikfkbaa
set_option linter.unusedSimpArgs false
set_option linter.unusedVariables false
open Go.RowKit
set_option maxHeartbeats 1600000
theorem l12Draw_any {w : World} {base g m : Nat} (S : Src w base g m) (hm : m ≤ 1000000000) (hb : base ≤ w.heap.size) :
    Calls Try.prog 48 #[.pointer (some ⟨g, 0, none⟩)] w fun e w' => (∃ (xs : List SPart) (v : Value), e = .returned v ∧ xs.length ≤ 25 ∧ Row SPart.cells 4 103 w' w.heap.size v xs ∧ v.ownBlock ≠ none) ∧ Src w' base g (m + 100) ∧ w.grownBy w' (some g) := by
  have hgl := S.lt
  go_enter Try.func48, Try.ntmps48
  go_wp2_with fail
  refine calls_box_out ?_
  intro W hbw B1
  refine (pick_any 6 (S.below hbw) (by omega) (by omega)).mono ?_
  rintro e w1 ⟨⟨r, rfl, r0, r1⟩, S1, G1⟩
  have r2 : r < 6 := by omega
  clear r1
  have B1 := B1.grown G1 (by omega)
  have G1 := (Grown.bel hbw).trans G1
  obtain ⟨k, rfl⟩ := Int.eq_ofNat_of_zero_le r0
  have R1 : Row SPart.cells 4 103 w1 w.heap.size (.slice (some ⟨w.heap.size, 0, none⟩) 0 0) [] := Row.ofBox B1 (Nat.le_refl _)
  clear B1 S hbw
  have HR1 := Lib.hid R1
  have HS1 := Lib.hid S1
  have HG1 := Lib.hid G1
  clear R1 S1 G1
  go_wp2_with fail
  go_loopw [3, 4] (fun v i wr => ∃ (j : Nat) (ys : List SPart), j ≤ 5 ∧ i = .int .i64 j ∧ ys.length + j ≤ 5 ∧ Row SPart.cells 4 103 wr w.heap.size v ys ∧ v.ownBlock ≠ none ∧ Src wr base g (m + 2 + 8 * (5 - j)) ∧ w.grownBy wr (some g)) (fun _ i wr => (intOf i).toNat)
  case atStart => exact ⟨k, [], by omega, rfl, by simp; omega, HR1.out, by simp [Value.ownBlock], HS1.out.up (by omega), HG1.out⟩
  case round =>
    clear HR1 HS1 HG1
    obtain ⟨j, ys, hj, rfl, hys, R, hno, S, G⟩ := hrel
    have hsz := G.size
    have hgr := S.lt
    by_cases hlt : 0 < j
    · have HR := Lib.hid R
      have HG := Lib.hid G
      clear R G
      go_wp2_with fail
      refine (l12DrawOne_any S (by omega) (by omega)).mono ?_
      rintro e w2 ⟨⟨x, rfl⟩, S2, G2⟩
      have HS2 := Lib.hid S2
      have HR := Lib.hid (HR.out.grownBelow G2 hgl)
      have HG := Lib.hid (HG.out.trans G2)
      have hsz2 := HG.out.size
      clear S S2 G2
      go_wp2_with (at_builtin; refine wpList_pushP rfl _ _ 35 rfl w.heap.size 103 Try.underlying35 (by kernel_rfl) u3 ys x rfl HR.out 1 rfl (by omega) hsz2 ?_; intro v' w3 hr3 hb3)
      go_roundw
      case rel => exact ⟨j - 1, ys ++ [x], by omega, by go_num, by rw [List.length_append]; simp; omega, hr3, hr3.own_some (by simp), (HS2.out.upto hb3 hgl hb).up (by omega), Grown.upto HG.out hb3⟩
      case measure => simp [intOf]; omega
    · obtain rfl : j = 0 := by omega
      have HR := Lib.hid R
      have HN := Lib.hid hno
      have HG := Lib.hid G
      clear R G hno
      go_wp2_with fail
      refine (pick_any 18 S (by omega) (by omega)).mono ?_
      rintro e w2 ⟨⟨r, rfl, r0, r1⟩, S2, G2⟩
      have r2 : r < 18 := by omega
      clear r1
      have HR := Lib.hid (HR.out.grownBelow G2 hgl)
      have G2 := HG.out.trans G2
      have hsz2 := G2.size
      clear S HG
      by_cases e0 : r = 0
      · subst e0
        go_wp2_with fail
        refine (l12DrawOne_any S2 (by omega) (by omega)).mono ?_
        rintro e w3 ⟨⟨x, rfl⟩, S3, G3⟩
        have HR := Lib.hid (HR.out.grownBelow G3 hgl)
        have G3 := G2.trans G3
        have hsz3 := G3.size
        clear S2 G2
        go_wp2_with fail
        refine (l12Bend_any x S3 (by omega) (by omega)).mono ?_
        rintro e w4 ⟨⟨y, rfl⟩, S4, G4⟩
        have HR := Lib.hid (HR.out.grownBelow G4 hgl)
        have G4 := G3.trans G4
        have hsz4 := G4.size
        have HG := Lib.hid G4
        have HS := Lib.hid S4
        clear S3 G3 G4 S4
        go_wp2_with (at_builtin; refine wpList_pushP rfl _ _ 35 rfl w.heap.size 103 Try.underlying35 (by kernel_rfl) u3 ys y rfl HR.out 1 rfl (by omega) hsz4 ?_; intro v' w5 hr5 hb5)
        go_ret
        exact ⟨⟨ys ++ [y], v', rfl, by rw [List.length_append]; simp; omega, hr5, hr5.own_some (by simp)⟩, (HS.out.upto hb5 hgl hb).up (by omega), Grown.upto HG.out hb5⟩
      by_cases e1 : r = 1
      · subst e1
        clear HR HN
        go_wp2_with fail
        refine calls_box_out ?_
        intro W3 hb3 B3
        have G3 := only_below G2 hb3
        have hgl2 := S2.lt
        refine (among_any [24, 25] w2.heap.size 2 (S2.below hb3) (by omega) (by decide) (by decide) B3 (by omega)).mono ?_
        rintro e w4 ⟨⟨q, rfl, hq⟩, S4, G4⟩
        have G4 := G3.trans G4
        have hsz4 := G4.size
        clear S2 G2 G3 hb3 B3
        simp only [List.mem_cons, List.not_mem_nil, or_false] at hq
        obtain ⟨n, rfl, hn⟩ : ∃ n : Nat, q = n ∧ n ≤ 25 := ⟨q.toNat, by omega, by omega⟩
        clear hq
        have HS := Lib.hid S4
        have HG := Lib.hid G4
        clear S4 G4
        go_wp2_with fail
        refine wp_box_out ?_
        intro W5 hb5 B5
        have R5 : Row SPart.cells 4 103 W5 w.heap.size (.slice (some ⟨w4.heap.size, 0, none⟩) 0 0) [] := Row.ofBox B5 (by omega)
        have HR5 := Lib.hid R5
        have HS5 := Lib.hid (HS.out.below hb5)
        have HG5 := Lib.hid (only_below HG.out hb5)
        clear R5 HS HG hb5 B5
        go_loopw [3, 6] (fun v i wr => ∃ (j : Nat) (ys : List SPart), j ≤ n ∧ i = .int .i64 j ∧ ys.length = j ∧ Row SPart.cells 4 103 wr w.heap.size v ys ∧ v.ownBlock ≠ none ∧ Src wr base g (m + 100) ∧ w.grownBy wr (some g)) (fun _ i wr => n - (intOf i).toNat)
        case atStart => exact ⟨0, [], by omega, rfl, rfl, HR5.out, by simp [Value.ownBlock], HS5.out.up (by omega), HG5.out⟩
        case round =>
          clear HR5 HS5 HG5
          obtain ⟨j, ys, hj, rfl, hys, R, hno, S, G⟩ := hrel
          have hsz := G.size
          have HR := Lib.hid R
          have HG := Lib.hid G
          have HS := Lib.hid S
          have HN := Lib.hid hno
          clear R G S hno
          by_cases hlt : j < n
          · go_wp2_with (at_builtin; refine wpList_pushP rfl _ _ 35 rfl w.heap.size 103 Try.underlying35 (by kernel_rfl) u3 ys ⟨2000, 500, 500, 1000⟩ rfl HR.out 1 rfl (by omega) hsz ?_; intro v' w3 hr3 hb3)
            go_roundw
            case rel => exact ⟨j + 1, _, by omega, by go_num, by rw [List.length_append]; simp; omega, hr3, hr3.own_some (by simp), HS.out.upto hb3 hgl hb, Grown.upto HG.out hb3⟩
            case measure => simp [intOf]; omega
          · go_wp2
            go_ret
            exact ⟨⟨ys, _, rfl, by omega, HR.out, HN.out⟩, HS.out, HG.out⟩
      have f0 : (r == 0) = false := by simpa using e0
      have f1 : (r == 1) = false := by simpa using e1
      have HS := Lib.hid S2
      have HG := Lib.hid G2
      clear S2 G2
      go_wp2
      go_ret
      exact ⟨⟨ys, _, rfl, by omega, HR.out, HN.out⟩, HS.out.up (by omega), HG.out⟩
theorem l12DrawTonnes_any {w : World} {base g m : Nat} (S : Src w base g m) (hm : m ≤ 10000000000) (hb : base ≤ w.heap.size) :
    Calls Try.prog 49 #[.pointer (some ⟨g, 0, none⟩)] w fun e w' => (∃ n : Int, e = .returned (.int .i64 n)) ∧ Src w' base g (m + 4) ∧ w.grownBy w' (some g) := by
  have hgl := S.lt
  go_enter Try.func49, Try.ntmps49
  go_wp2_with fail
  refine (one_any 8 S (by omega) (by omega)).mono ?_
  rintro e w1 ⟨⟨b, rfl⟩, S1, G1⟩
  have hgl1 := S1.lt
  cases b
  · go_wp2_with fail
    refine (pick_any 3000 S1 (by omega) (by omega)).mono ?_
    rintro e w2 ⟨⟨r, rfl, r0, r1⟩, S2, G2⟩
    have r2 : r < 3000 := by omega
    clear r1
    go_wp2
    go_ret
    exact ⟨⟨_, rfl⟩, S2, G1.trans G2⟩
  · go_wp2_with fail
    refine calls_box_out ?_
    intro W3 hb3 B3
    have G2 := only_below G1 hb3
    refine (among_any [-1, 0, 9, 10, 10000, 100000000, 100000001, 99999999] w1.heap.size 8 (S1.below hb3) (by omega) (by decide) (by decide) B3 (by omega)).mono ?_
    rintro e w4 ⟨⟨q, rfl, hq⟩, S4, G4⟩
    go_wp2
    go_ret
    exact ⟨⟨_, rfl⟩, S4, G2.trans G4⟩
theorem l12DrawShare_any {w : World} {base g m : Nat} (S : Src w base g m) (hm : m ≤ 10000000000) (hb : base ≤ w.heap.size) :
    Calls Try.prog 50 #[.pointer (some ⟨g, 0, none⟩)] w fun e w' => (∃ n : Int, e = .returned (.int .i64 n)) ∧ Src w' base g (m + 2) ∧ w.grownBy w' (some g) := by
  have hgl := S.lt
  go_enter Try.func50, Try.ntmps50
  go_wp2_with fail
  refine calls_box_out ?_
  intro W3 hb3 B3
  refine (among_any [0, 50, 200, 500, 1000, 1001, -1, 300] w.heap.size 8 (S.below hb3) (by omega) (by decide) (by decide) B3 (by omega)).mono ?_
  rintro e w4 ⟨⟨q, rfl, hq⟩, S4, G4⟩
  go_wp2
  go_ret
  exact ⟨⟨_, rfl⟩, S4, (Grown.bel hb3).trans G4⟩
theorem DrawLargestMass_any {w : World} (A : Option Addr) (n c : Nat) (hn : n ≤ 1048576) (hnc : n ≤ c) (hc : c ≤ 9223372036854775807) (hby : Bytes9 w w.heap.size A n) :
    Calls Try.prog 15 #[.slice A n c] w fun e w' => (∃ (xs : List SPart) (b d : Nat) (x y : Int), e = .returned (.tuple #[.slice (some ⟨b, 0, none⟩) xs.length d, .int .i64 x, .int .i64 y]) ∧ xs.length ≤ 25 ∧ Arr SPart.cells 4 w' b xs) ∧ Below w.heap.size w w' := by
  have HBY := Lib.hid hby
  clear hby
  go_enter Try.func15, Try.ntmps15
  go_wp2_with fail
  refine (fromS_any A n c (Nat.le_refl _) hn hnc hc HBY.out).mono ?_
  rintro e w1 ⟨rfl, S1, hb1⟩
  have hle := hb1.size
  have hgl := S1.lt
  go_wp2_with fail
  refine (l12Draw_any S1 (by omega) hle).mono ?_
  rintro e w2 ⟨⟨xs, v, rfl, hx, R, hno⟩, S2, G2⟩
  have hle2 := G2.size
  obtain ⟨b, d, rfl, hbg, HA⟩ := R.arr hno (fun _ => rfl)
  have HR := Lib.hid R
  have HB := Lib.hid (below_of_grown G2 hle (Nat.le_refl _))
  clear R S1 G2 hno HA HBY
  have HB1 := Lib.hid hb1
  clear hb1
  go_wp2_with fail
  refine (l12DrawTonnes_any S2 (by omega) (by omega)).mono ?_
  rintro e w3 ⟨⟨x, rfl⟩, S3, G3⟩
  have hle3 := G3.size
  have HR := Lib.hid (HR.out.grownBelow G3 (by omega))
  have HB := Lib.hid (HB.out.trans (below_of_grown G3 (by omega) (Nat.le_refl _)))
  clear S2 G3
  go_wp2_with fail
  refine (l12DrawShare_any S3 (by omega) (by omega)).mono ?_
  rintro e w4 ⟨⟨y, rfl⟩, S4, G4⟩
  have HR := Lib.hid (HR.out.grownBelow G4 (by omega))
  have HB := Lib.hid (HB.out.trans (below_of_grown G4 (by omega) (Nat.le_refl _)))
  clear S3 S4 G4
  go_wp2
  go_ret3
  obtain ⟨b', d', e2, -, HA⟩ := HR.out.arr (by simp [Value.ownBlock]) (fun _ => rfl)
  simp only [Value.slice.injEq, Option.some.injEq, Addr.mk.injEq] at e2
  obtain ⟨⟨rfl, -⟩, -, rfl⟩ := e2
  exact ⟨⟨xs, b, d, x, y, rfl, hx, HA⟩, HB1.out.trans HB.out⟩
theorem DrawLeastStart_any {w : World} (A : Option Addr) (n c : Nat) (hn : n ≤ 1048576) (hnc : n ≤ c) (hc : c ≤ 9223372036854775807) (hby : Bytes9 w w.heap.size A n) :
    Calls Try.prog 18 #[.slice A n c] w fun e w' => (∃ (xs : List SPart) (b d : Nat) (x y : Int), e = .returned (.tuple #[.slice (some ⟨b, 0, none⟩) xs.length d, .int .i64 x, .int .i64 y]) ∧ xs.length ≤ 25 ∧ Arr SPart.cells 4 w' b xs) ∧ Below w.heap.size w w' := by
  have HBY := Lib.hid hby
  clear hby
  go_enter Try.func18, Try.ntmps18
  go_wp2_with fail
  refine (fromS_any A n c (Nat.le_refl _) hn hnc hc HBY.out).mono ?_
  rintro e w1 ⟨rfl, S1, hb1⟩
  have hle := hb1.size
  have hgl := S1.lt
  go_wp2_with fail
  refine (l12Draw_any S1 (by omega) hle).mono ?_
  rintro e w2 ⟨⟨xs, v, rfl, hx, R, hno⟩, S2, G2⟩
  have hle2 := G2.size
  obtain ⟨b, d, rfl, hbg, HA⟩ := R.arr hno (fun _ => rfl)
  have HR := Lib.hid R
  have HB := Lib.hid (below_of_grown G2 hle (Nat.le_refl _))
  clear R S1 G2 hno HA HBY
  have HB1 := Lib.hid hb1
  clear hb1
  go_wp2_with fail
  refine (l12DrawShare_any S2 (by omega) (by omega)).mono ?_
  rintro e w3 ⟨⟨x, rfl⟩, S3, G3⟩
  have hle3 := G3.size
  have HR := Lib.hid (HR.out.grownBelow G3 (by omega))
  have HB := Lib.hid (HB.out.trans (below_of_grown G3 (by omega) (Nat.le_refl _)))
  clear S2 G3
  go_wp2_with fail
  refine (l12DrawTonnes_any S3 (by omega) (by omega)).mono ?_
  rintro e w4 ⟨⟨y, rfl⟩, S4, G4⟩
  have HR := Lib.hid (HR.out.grownBelow G4 (by omega))
  have HB := Lib.hid (HB.out.trans (below_of_grown G4 (by omega) (Nat.le_refl _)))
  clear S3 S4 G4
  go_wp2
  go_ret3
  obtain ⟨b', d', e2, -, HA⟩ := HR.out.arr (by simp [Value.ownBlock]) (fun _ => rfl)
  simp only [Value.slice.injEq, Option.some.injEq, Addr.mk.injEq] at e2
  obtain ⟨⟨rfl, -⟩, -, rfl⟩ := e2
  exact ⟨⟨xs, b, d, x, y, rfl, hx, HA⟩, HB1.out.trans HB.out⟩
end Go.Proofs.Ytcjalooaikfkbaa
