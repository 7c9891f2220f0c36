/- FnForest: for every input the law answers true. No condition. -/
import Derived.Test.YtcjalooaikfkbaaL10y
import Derived.Test.YtcjalooaikfkbaaL10z
import Derived.Test.YtcjalooaikfkbaaRowU
import Derived.Deep.CutRange
namespace Go.Proofs.Ytcjalooaikfkbaa
set_option linter.unusedSimpArgs false
set_option linter.unusedVariables false
open Go.RowKit
set_option maxHeartbeats 3200000
set_option maxRecDepth 100000 in
theorem lawFnForest (A1 : Option Addr) (c1 : Nat) (xs1 : List Int) (A2 : Option Addr) (c2 : Nat) (xs2 : List Int) (w : World) (h1 : Bytes8 w w.heap.size A1 xs1.length) (k1 : xs1.length ≤ c1 ∧ c1 ≤ 9223372036854775807)
    (h2 : Bytes8 w w.heap.size A2 xs2.length) (k2 : xs2.length ≤ c2 ∧ c2 ≤ 9223372036854775807) :
    Calls Try.prog 3 #[.slice A1 xs1.length c1, .slice A2 xs2.length c2] w fun e w' => e = .returned (.bool true) ∧ Below w.heap.size w w' := by
  generalize xs1.length = n1 at *
  generalize xs2.length = n2 at *
  obtain ⟨k1, k1'⟩ := k1
  obtain ⟨k2, k2'⟩ := k2
  by_cases hl1 : (1048576 : Int) < (n1 : Int)
  · go_enter Try.func3, Try.ntmps3
    go_wp2_with (go_at_call 7; refine (b10Long_any _ _ _ _).mono ?_; rintro e w' ⟨rfl, rfl⟩)
    go_ret
    exact ⟨rfl, (by repeat (first | (with_reducible assumption) | (with_reducible exact Below.refl _ _) | (with_reducible refine Bel.alloc ?_ _) | (with_reducible refine Below.drew ?_) | (with_reducible refine Bel.drewN ?_ _) | (with_reducible refine Bel.setCell ?_ (by (try simp) <;> omega) _) | (with_reducible refine Bel.trans ?_ (by assumption))))⟩
  by_cases hl2 : (1048576 : Int) < (n2 : Int)
  · go_enter Try.func3, Try.ntmps3
    go_wp2_with (go_at_call 7; refine (b10Long_any _ _ _ _).mono ?_; rintro e w' ⟨rfl, rfl⟩)
    go_ret
    exact ⟨rfl, (by repeat (first | (with_reducible assumption) | (with_reducible exact Below.refl _ _) | (with_reducible refine Bel.alloc ?_ _) | (with_reducible refine Below.drew ?_) | (with_reducible refine Bel.drewN ?_ _) | (with_reducible refine Bel.setCell ?_ (by (try simp) <;> omega) _) | (with_reducible refine Bel.trans ?_ (by assumption))))⟩
  have H1 := Lib.hid h1
  have H2 := Lib.hid h2
  clear h1 h2
  go_enter Try.func3, Try.ntmps3
  go_wp2_with (go_at_call 7; refine (b10Long_any _ _ _ _).mono ?_; rintro e w' ⟨rfl, rfl⟩)
  refine (DrawProtectionOf_any A1 n1 c1 (by omega) k1 k1' H1.out).mono ?_
  rintro e w1 ⟨⟨x, s, rfl, hxi, hs0, hs1⟩, hb1⟩
  have hbw := hb1
  clear hb1
  have hxi : x.Id.size ≤ 9223372036854775807 := by omega
  go_wp2_with fail
  refine calls_box_out ?_
  intro W1 hb B1
  have hbw := Bel.trans hbw hb
  refine (ProtectionOf_any x s _ hxi).mono ?_
  rintro e w2 ⟨rfl, hb⟩
  have B1 := B1.below hb
  have hbw := Bel.trans hbw hb
  clear hb
  have c0 : w2.cell? ⟨w1.heap.size, 0, none⟩ = some (.string x.Id) := B1.cell 0
  have c1 : w2.cell? ⟨w1.heap.size, 1, none⟩ = some (.int .i64 x.Trees) := B1.cell 1
  have c2 : w2.cell? ⟨w1.heap.size, 2, none⟩ = some (.int .i64 x.Height) := B1.cell 2
  have c3 : w2.cell? ⟨w1.heap.size, 3, none⟩ = some (.int .i64 x.Cover) := B1.cell 3
  have c4 : w2.cell? ⟨w1.heap.size, 4, none⟩ = some (.int .i64 x.Gap) := B1.cell 4
  go_wp2_with fail
  refine (ProtectionOf_any x (s + 1) _ hxi).mono ?_
  clear c0 c1 c2 c3 c4
  rintro e w3 ⟨rfl, hb⟩
  have B1 := B1.below hb
  have hbw := Bel.trans hbw hb
  clear hb
  have HB1 := Lib.hid B1
  clear B1
  go_upto_if 61 with fail
  go_cut [7, 8, 9, 10] from 36 (fun _ _ _ _ wx => Below w.heap.size w wx)
  case first =>
    by_cases ho : (protOf x s).2 = 0
    · obtain ⟨f1, f2, f3, f4, f5, f6⟩ := forest1 ho
      have B1 := HB1.out
      have hgi := growStand_id x 1 hxi
      have HF4 := Lib.hid f4
      have HF5 := Lib.hid f5
      have HF3 := Lib.hid f3
      clear f3 f4 f5
      have c0 : w3.cell? ⟨w1.heap.size, 0, none⟩ = some (.string x.Id) := B1.cell 0
      have c1 : w3.cell? ⟨w1.heap.size, 1, none⟩ = some (.int .i64 x.Trees) := B1.cell 1
      have c2 : w3.cell? ⟨w1.heap.size, 2, none⟩ = some (.int .i64 x.Height) := B1.cell 2
      have c3 : w3.cell? ⟨w1.heap.size, 3, none⟩ = some (.int .i64 x.Cover) := B1.cell 3
      have c4 : w3.cell? ⟨w1.heap.size, 4, none⟩ = some (.int .i64 x.Gap) := B1.cell 4
      go_wp2_with fail
      refine (GrowStand_any x 1 _ hxi).mono ?_
      clear c0 c1 c2 c3 c4
      rintro e w4 ⟨rfl, hb⟩
      have B1 := B1.below hb
      have hbw := Bel.trans hbw hb
      clear hb
      go_wp2_with fail
      refine calls_box_out ?_
      intro W4 hb B2
      have hbw := Bel.trans hbw hb
      clear hb
      refine (ProtectionOf_any (growStand x 1).1 s _ hgi).mono ?_
      rintro e w5 ⟨rfl, hb⟩
      have B2 := B2.below hb
      have hbw := Bel.trans hbw hb
      clear hb
      have f4 := HF4.out
      have f5 := HF5.out
      have n1 : ¬ (protOf x s).1 < 0 := by omega
      have n2 : ¬ 1000 < (protOf x s).1 := by omega
      have n3 : ¬ (protOf (growStand x 1).1 s).1 < (protOf x s).1 := by omega
      by_cases h2 : (protOf x (s + 1)).2 = 0
      · have n4 : ¬ (protOf x s).1 < (protOf x (s + 1)).1 := by have := HF3.out h2; omega
        go_wp2_with fail
        go_meet
        exact hbw
      · go_wp2_with fail
        go_meet
        exact hbw
    · go_wp2_with fail
      go_meet
      exact hbw
  case rest =>
  have hbw := hcut
  have hle := hcut.size
  clear HB1 hcut
  go_wp2_with fail
  refine (DrawMostSnow_any A2 n2 c2 (by omega) k2 k2' (fun i hi => ?_)).mono ?_
  · obtain ⟨b, o, v, e, g1, g2, g3⟩ := H2.out i hi
    exact ⟨b, o, v, e, Nat.lt_of_lt_of_le g1 hle, (hbw.cell (p := ⟨b, o + i, none⟩) g1).trans g2, g3⟩
  rintro e w6 ⟨⟨y, l, rfl, hyi, hl0, hl1'⟩, hb⟩
  have hbw := Bel.trans hbw hb
  clear hb hle
  have hyi : y.Id.size ≤ 9223372036854775807 := by omega
  go_wp2_with fail
  refine calls_box_out ?_
  intro W6 hb B1
  have hbw := Bel.trans hbw hb
  clear hb
  refine (MostSnow_any y l _ hyi).mono ?_
  rintro e w7 ⟨rfl, hb⟩
  have B1 := B1.below hb
  have hbw := Bel.trans hbw hb
  clear hb
  have HB1 := Lib.hid B1
  clear B1
  go_upto_if 113 with fail
  go_cut [16, 17, 18] from 36 (fun _ _ _ wx => Below w.heap.size w wx)
  case first =>
    by_cases ho : (mostSnow y l).2 = 0
    · obtain ⟨f1, f2, f3, f4, f5⟩ := forest2 ho
      have B1 := HB1.out
      have HF3 := Lib.hid f3
      have HF5 := Lib.hid f5
      clear f3 f5
      have c0 : w7.cell? ⟨w6.heap.size, 0, none⟩ = some (.string y.Id) := B1.cell 0
      have c1 : w7.cell? ⟨w6.heap.size, 1, none⟩ = some (.int .i64 y.Trees) := B1.cell 1
      have c2 : w7.cell? ⟨w6.heap.size, 2, none⟩ = some (.int .i64 y.Height) := B1.cell 2
      have c3 : w7.cell? ⟨w6.heap.size, 3, none⟩ = some (.int .i64 y.Cover) := B1.cell 3
      have c4 : w7.cell? ⟨w6.heap.size, 4, none⟩ = some (.int .i64 y.Gap) := B1.cell 4
      go_wp2_with fail
      refine (ProtectionOf_any y _ _ hyi).mono ?_
      clear c0 c1 c2 c3 c4
      rintro e w8 ⟨rfl, hb⟩
      have B1 := B1.below hb
      have hbw := Bel.trans hbw hb
      clear hb
      have c0 : w8.cell? ⟨w6.heap.size, 0, none⟩ = some (.string y.Id) := B1.cell 0
      have c1 : w8.cell? ⟨w6.heap.size, 1, none⟩ = some (.int .i64 y.Trees) := B1.cell 1
      have c2 : w8.cell? ⟨w6.heap.size, 2, none⟩ = some (.int .i64 y.Height) := B1.cell 2
      have c3 : w8.cell? ⟨w6.heap.size, 3, none⟩ = some (.int .i64 y.Cover) := B1.cell 3
      have c4 : w8.cell? ⟨w6.heap.size, 4, none⟩ = some (.int .i64 y.Gap) := B1.cell 4
      go_wp2_with fail
      refine (ProtectionOf_any y _ _ hyi).mono ?_
      clear c0 c1 c2 c3 c4
      rintro e w9 ⟨rfl, hb⟩
      have B1 := B1.below hb
      have hbw := Bel.trans hbw hb
      clear hb
      have f3 := HF3.out
      have n1 : ¬ (protOf y (mostSnow y l).1).1 < l := by omega
      by_cases h2 : (protOf y ((mostSnow y l).1 + 1)).2 = 0
      · have n2 : ¬ l ≤ (protOf y ((mostSnow y l).1 + 1)).1 := by have := HF5.out h2; omega
        go_wp2_with fail
        go_meet
        exact hbw
      · go_wp2_with fail
        go_meet
        exact hbw
    · go_wp2_with fail
      go_meet
      exact hbw
  case rest =>
  have hbw := hcut
  have hle := hcut.size
  clear HB1 hcut
  go_wp2_with fail
  refine (DrawYearsUntil_any A1 n1 c1 (by omega) k1 k1' (fun i hi => ?_)).mono ?_
  · obtain ⟨b, o, v, e, g1, g2, g3⟩ := H1.out i hi
    exact ⟨b, o, v, e, Nat.lt_of_lt_of_le g1 hle, (hbw.cell (p := ⟨b, o + i, none⟩) g1).trans g2, g3⟩
  rintro e w10 ⟨⟨z, t, m, rfl, hzi, ht0, ht1, hm0, hm1⟩, hb⟩
  have hbw := Bel.trans hbw hb
  clear hb hle
  have hzi : z.Id.size ≤ 9223372036854775807 := by omega
  go_wp2_with fail
  refine calls_box_out ?_
  intro W10 hb B1
  have hbw := Bel.trans hbw hb
  clear hb
  refine (YearsUntil_any z t m _ hzi).mono ?_
  rintro e w11 ⟨rfl, hb⟩
  have B1 := B1.below hb
  have hbw := Bel.trans hbw hb
  clear hb
  by_cases ho : (yearsUntil z t m).2 = 0
  · obtain ⟨f1, f2, f3, f4, f5, f6⟩ := forest4 ho
    have hgi := growStand_id z (yearsUntil z t m).1 hzi
    have hgi2 := growStand_id z ((yearsUntil z t m).1 - 1) hzi
    have HF3 := Lib.hid f3
    have HF4 := Lib.hid f4
    have HF6 := Lib.hid f6
    clear f3 f4 f6
    have c0 : w11.cell? ⟨w10.heap.size, 0, none⟩ = some (.string z.Id) := B1.cell 0
    have c1 : w11.cell? ⟨w10.heap.size, 1, none⟩ = some (.int .i64 z.Trees) := B1.cell 1
    have c2 : w11.cell? ⟨w10.heap.size, 2, none⟩ = some (.int .i64 z.Height) := B1.cell 2
    have c3 : w11.cell? ⟨w10.heap.size, 3, none⟩ = some (.int .i64 z.Cover) := B1.cell 3
    have c4 : w11.cell? ⟨w10.heap.size, 4, none⟩ = some (.int .i64 z.Gap) := B1.cell 4
    go_wp2_with fail
    refine (GrowStand_any z _ _ hzi).mono ?_
    clear c0 c1 c2 c3 c4
    rintro e w12 ⟨rfl, hb⟩
    have B1 := B1.below hb
    have hbw := Bel.trans hbw hb
    clear hb
    go_wp2_with fail
    refine calls_box_out ?_
    intro W12 hb B2
    have B1 := B1.below hb
    have hbw := Bel.trans hbw hb
    clear hb
    refine (ProtectionOf_any (growStand z (yearsUntil z t m).1).1 t _ hgi).mono ?_
    rintro e w13 ⟨rfl, hb⟩
    have B1 := B1.below hb
    have hbw := Bel.trans hbw hb
    clear hb B2
    have f3 := HF3.out
    have f4 := HF4.out
    have n1 : ¬ (protOf (growStand z (yearsUntil z t m).1).1 t).1 < m := by omega
    by_cases hy0 : (yearsUntil z t m).1 = 0
    · rw [hy0] at f3 f4 n1
      go_wp2_with fail
      go_ret
      exact ⟨rfl, hbw⟩
    · obtain ⟨g1, g2, g3⟩ := HF6.out hy0
      have HG1 := Lib.hid g1
      have HG2 := Lib.hid g2
      clear g1 g2
      have c0 : w13.cell? ⟨w10.heap.size, 0, none⟩ = some (.string z.Id) := B1.cell 0
      have c1 : w13.cell? ⟨w10.heap.size, 1, none⟩ = some (.int .i64 z.Trees) := B1.cell 1
      have c2 : w13.cell? ⟨w10.heap.size, 2, none⟩ = some (.int .i64 z.Height) := B1.cell 2
      have c3 : w13.cell? ⟨w10.heap.size, 3, none⟩ = some (.int .i64 z.Cover) := B1.cell 3
      have c4 : w13.cell? ⟨w10.heap.size, 4, none⟩ = some (.int .i64 z.Gap) := B1.cell 4
      go_wp2_with fail
      refine (GrowStand_any z _ _ hzi).mono ?_
      clear c0 c1 c2 c3 c4
      rintro e w14 ⟨rfl, hb⟩
      have B1 := B1.below hb
      have hbw := Bel.trans hbw hb
      clear hb
      go_wp2_with fail
      refine calls_box_out ?_
      intro W14 hb B3
      have hbw := Bel.trans hbw hb
      clear hb
      refine (ProtectionOf_any (growStand z ((yearsUntil z t m).1 - 1)).1 t _ hgi2).mono ?_
      rintro e w15 ⟨rfl, hb⟩
      have B3 := B3.below hb
      have hbw := Bel.trans hbw hb
      clear hb
      have g1 := HG1.out
      have g2 := HG2.out
      go_wp2_with fail
      go_ret
      exact ⟨rfl, hbw⟩
  · have hy0 := forest3 ho
    go_wp2_with fail
    go_ret
    exact ⟨rfl, hbw⟩
end Go.Proofs.Ytcjalooaikfkbaa
