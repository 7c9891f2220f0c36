/- Chapter 10: the three drawing functions that the law of the forest calls, and two functions of the program. -/
import Derived.Test.YtcjalooaikfkbaaL10x
import Derived.Deep.RegionHeld3
namespace Go.Proofs.Ytcjalooaikfkbaa
set_option linter.unusedSimpArgs false
set_option linter.unusedVariables false
open Go.RowKit
set_option maxHeartbeats 1600000
def Bytes8 (w : World) (base : Nat) (A : Option Addr) (n : Nat) : Prop := ∀ i, i < n → ∃ b o v, A = some (⟨b, o, none⟩ : Addr) ∧ b < base ∧ w.cell? ⟨b, o + i, none⟩ = some (.int .u8 v) ∧ 0 ≤ v ∧ v ≤ 255
theorem Bytes8.below {w w' : World} {base : Nat} {A : Option Addr} {n : Nat} (h : Bytes8 w base A n) (hb : Below w.heap.size w w') (hB : base ≤ w.heap.size) : Bytes8 w' base A n := fun i hi => by
  obtain ⟨b, o, v, e, h1, h2, h3⟩ := h i hi
  exact ⟨b, o, v, e, h1, (hb.cell (p := ⟨b, o + i, none⟩) (Nat.lt_of_lt_of_le h1 hB)).trans h2, h3⟩
theorem Src.setAll {base g m b : Nat} {w : World} (S : Src w base g m) (hb : base ≤ b) (hne : g ≠ b) (l : List Value) (i : Nat) : Src (Go.Proofs.Ytcjalooaikfkbaa.setAll w b i l) base g m := by
  induction l generalizing w i with
  | nil => exact S
  | cons v l ih => exact ih (S.set ⟨b, i, none⟩ v hb hne) (i + 1)
theorem Box.farAll {t : TypeId} {g b : Nat} {cs : Array Value} {w : World} (B : Box t w g cs) (hne : g ≠ b) (l : List Value) (i : Nat) : Box t (Go.Proofs.Ytcjalooaikfkbaa.setAll w b i l) g cs := by
  induction l generalizing w i with
  | nil => exact B
  | cons v l ih => exact ih (B.far (p := ⟨b, i, none⟩) hne v) (i + 1)
theorem only_setAll {w wr : World} {row : Option Nat} {b : Nat} (h : w.grownBy wr row) (hb : w.heap.size ≤ b) (l : List Value) (i : Nat) : w.grownBy (Go.Proofs.Ytcjalooaikfkbaa.setAll wr b i l) row := by
  induction l generalizing wr i with
  | nil => exact h
  | cons v l ih => exact ih (only_out h ⟨b, i, none⟩ v hb) (i + 1)
theorem half_bd {h : Int} (h0 : -1 ≤ h) (h1 : h ≤ 5001) : -1 ≤ h.tdiv 2 ∧ h.tdiv 2 ≤ 2501 := by
  rcases Int.lt_or_le h 0 with h2 | h2
  · obtain rfl : h = -1 := by omega
    decide
  · rw [Int.tdiv_eq_ediv_of_nonneg h2]; omega
theorem DrawMostSnow_any {w : World} (A : Option Addr) (n c : Nat) (hn : n ≤ 1048576) (hnc : n ≤ c) (hc : c ≤ 9223372036854775807) (hby : Bytes8 w w.heap.size A n) :
    Calls Try.prog 11 #[.slice A n c] w fun e w' => (∃ (x : SStand) (k : Int), e = .returned (.tuple #[.agg #[.string x.Id, .int .i64 x.Trees, .int .i64 x.Height, .int .i64 x.Cover, .int .i64 x.Gap], .int .i64 k]) ∧ x.Id.size ≤ 3 ∧ -1 ≤ k ∧ k ≤ 3000) ∧ Below w.heap.size w w' := by
  have HBY := Lib.hid hby
  clear hby
  go_enter Try.func11, Try.ntmps11
  go_wp2_with fail
  refine calls_box_out ?_
  intro W hbw B1
  have hbase : w.heap.size ≤ W.heap.size := hbw.size
  have hlw := B1.lt
  refine (from_any A n c hbase hn hnc hc (HBY.out.below hbw (Nat.le_refl _))).mono ?_
  rintro e w1 ⟨rfl, S1, hb1⟩
  have B1 := B1.below hb1
  have hbw := Bel.trans hbw hb1
  obtain ⟨g, hgg⟩ : ∃ g, g = W.heap.size := ⟨_, rfl⟩
  rw [← hgg] at S1 hlw hbase ⊢
  clear hgg
  have hbase1 : w.heap.size ≤ w1.heap.size := hbw.size
  clear hb1 HBY
  go_wp2_with fail
  refine (l10DrawOne_any ⟨#[102, 105, 114]⟩ S1 (by omega) hbase1).mono ?_
  rintro e w2 ⟨⟨x0, rfl, hi0, hx0, hx1⟩, S2, G2⟩
  have hbase2 : w.heap.size ≤ w2.heap.size := Nat.le_trans hbase1 G2.size
  have B1 := B1.grown G2 (by omega)
  have HI0 := Lib.hid hi0
  clear S1 hi0
  go_wp2_with fail
  refine (l10Bend_any x0 S2 (by omega) hbase2 hx0 hx1).mono ?_
  rintro e w3 ⟨⟨x, rfl, hi1, hx2, hx3⟩, S3, G3⟩
  have B1 := B1.grown G3 (by omega)
  have G3 := ((Grown.bel hbw).trans G2).trans G3
  have hl3 := B1.lt
  have hg3 := S3.lt
  have HI1 : Hid (x.Id.size ≤ 3) := Lib.hid (by rw [hi1, HI0.out]; decide)
  clear hi1 HI0 S2 G2 hx0 hx1 hbase1 hbase2 hbw
  go_wp2_with fail
  refine wp_box_out ?_
  intro W4 hb4 B5
  have S4 := S3.below hb4
  have G4 := only_below G3 hb4
  have B1 := B1.below hb4
  have hne : g ≠ w3.heap.size := by omega
  have hl3W := B5.lt
  clear S3 G3 hb4
  have hbs : w.heap.size ≤ W4.heap.size := G4.size
  have c0 : W4.cell? ⟨w3.heap.size, 0, none⟩ = some (.string x.Id) := B5.cell 0
  have c1 : W4.cell? ⟨w3.heap.size, 1, none⟩ = some (.int .i64 x.Trees) := B5.cell 1
  have c2 : W4.cell? ⟨w3.heap.size, 2, none⟩ = some (.int .i64 x.Height) := B5.cell 2
  have c3 : W4.cell? ⟨w3.heap.size, 3, none⟩ = some (.int .i64 x.Cover) := B5.cell 3
  have c4 : W4.cell? ⟨w3.heap.size, 4, none⟩ = some (.int .i64 x.Gap) := B5.cell 4
  have d0 : W4.cell? ⟨w.heap.size, 0, none⟩ = some (.string zeroStand.Id) := B1.cell 0
  have d1 : W4.cell? ⟨w.heap.size, 1, none⟩ = some (.int .i64 zeroStand.Trees) := B1.cell 1
  have d2 : W4.cell? ⟨w.heap.size, 2, none⟩ = some (.int .i64 zeroStand.Height) := B1.cell 2
  have d3 : W4.cell? ⟨w.heap.size, 3, none⟩ = some (.int .i64 zeroStand.Cover) := B1.cell 3
  have d4 : W4.cell? ⟨w.heap.size, 4, none⟩ = some (.int .i64 zeroStand.Gap) := B1.cell 4
  have y0 : W4.frozen? ⟨w.heap.size, 0, none⟩ = false := B1.free 0
  have y1 : W4.frozen? ⟨w.heap.size, 1, none⟩ = false := B1.free 1
  have y2 : W4.frozen? ⟨w.heap.size, 2, none⟩ = false := B1.free 2
  have y3 : W4.frozen? ⟨w.heap.size, 3, none⟩ = false := B1.free 3
  have y4 : W4.frozen? ⟨w.heap.size, 4, none⟩ = false := B1.free 4
  have HB1 := Lib.hid B1
  clear B1
  have H : ∀ w', Box 25 w' w3.heap.size #[.string x.Id, .int .i64 x.Trees, .int .i64 x.Height, .int .i64 x.Cover, .int .i64 x.Gap] → (∃ k, k ≤ 1000 ∧ Src w' w.heap.size g k) → w.grownBy w' (some g) →
      (w'.cell? ⟨w3.heap.size, 0, none⟩ = some (.string x.Id) ∧ w'.cell? ⟨w3.heap.size, 1, none⟩ = some (.int .i64 x.Trees) ∧ w'.cell? ⟨w3.heap.size, 2, none⟩ = some (.int .i64 x.Height) ∧ w'.cell? ⟨w3.heap.size, 3, none⟩ = some (.int .i64 x.Cover) ∧ w'.cell? ⟨w3.heap.size, 4, none⟩ = some (.int .i64 x.Gap)) ∧ Box 25 w' w3.heap.size #[.string x.Id, .int .i64 x.Trees, .int .i64 x.Height, .int .i64 x.Cover, .int .i64 x.Gap] ∧ (∃ k, k ≤ 1000 ∧ Src w' w.heap.size g k) ∧ w.grownBy w' (some g) :=
    fun w' hB hS hG => ⟨⟨hB.cell 0, hB.cell 1, hB.cell 2, hB.cell 3, hB.cell 4⟩, hB, hS, hG⟩
  have S4d : Src W4.drew w.heap.size g 20 := (S4.below ((Below.refl _ _).drew)).up (by omega)
  have G4d : w.grownBy W4.drew (some g) := only_below G4 ((Below.refl _ _).drew)
  have B5d : Box 25 W4.drew w3.heap.size #[.string x.Id, .int .i64 x.Trees, .int .i64 x.Height, .int .i64 x.Cover, .int .i64 x.Gap] := B5
  have B1d : Box 25 W4.drew w.heap.size #[.string zeroStand.Id, .int .i64 zeroStand.Trees, .int .i64 zeroStand.Height, .int .i64 zeroStand.Cover, .int .i64 zeroStand.Gap] := HB1.out
  have hsz : W4.drew.heap.size = W4.heap.size := rfl
  have hgW : g < W4.heap.size := S4.lt
  have h3W : w3.heap.size < W4.heap.size := B5.lt
  clear S4 HB1
  clear B5 c0 c1 c2 c3 c4 d0 d1 d2 d3 d4 y0 y1 y2 y3 y4
  have hk20 : 20 ≤ 1000 := by decide
  have hk40 : 40 ≤ 1000 := by decide
  have hsx : w3.heap.size ≠ w.heap.size := by omega
  have hsg : g ≠ w.heap.size := by omega
  have hs3 : w3.heap.size ≠ g := by omega
  have hsr : w.heap.size ≠ g := by omega
  have hbd : w.heap.size ≤ W4.drew.heap.size := hbs
  have hm20 : 20 ≤ 10000000000 := by decide
  clear hsz
  go_region_held3 (fun w' => (w'.cell? ⟨w3.heap.size, 0, none⟩ = some (.string x.Id) ∧ w'.cell? ⟨w3.heap.size, 1, none⟩ = some (.int .i64 x.Trees) ∧ w'.cell? ⟨w3.heap.size, 2, none⟩ = some (.int .i64 x.Height) ∧ w'.cell? ⟨w3.heap.size, 3, none⟩ = some (.int .i64 x.Cover) ∧ w'.cell? ⟨w3.heap.size, 4, none⟩ = some (.int .i64 x.Gap)) ∧ Box 25 w' w3.heap.size #[.string x.Id, .int .i64 x.Trees, .int .i64 x.Height, .int .i64 x.Cover, .int .i64 x.Gap] ∧ (∃ k, k ≤ 1000 ∧ Src w' w.heap.size g k) ∧ w.grownBy w' (some g))
    ((first | (with_reducible exact H _ B5d ⟨20, hk20, S4d⟩ G4d) | (with_reducible exact H _ BB ⟨40, hk40, S9⟩ GG) | exact H _ (Box.farAll BB hsx (SStand.cells x) 0) ⟨40, hk40, Src.setAll S9 (Nat.le_refl _) hsg (SStand.cells x) 0⟩ (only_setAll GG (Nat.le_refl _) (SStand.cells x) 0))) (first
    | (go_at_call 46; refine (l10DrawLeast_any (m := 20) S4d (by decide) hbd).mono ?_; rintro e w9 ⟨⟨q, rfl, hq0, hq1⟩, S9, G9⟩; have S9 := S9.up (m' := 40) (by decide); have GG := Grown.trans G4d G9;
        have BB := Box.grown B5d G9 hs3; have BR := Box.grown B1d G9 hsr; (have e0 : w9.cell? ⟨w.heap.size, 0, none⟩ = some (.string ⟨#[]⟩) := BR.cell 0; have e1 : w9.cell? ⟨w.heap.size, 1, none⟩ = some (.int .i64 0) := BR.cell 1; have e2 : w9.cell? ⟨w.heap.size, 2, none⟩ = some (.int .i64 0) := BR.cell 2; have e3 : w9.cell? ⟨w.heap.size, 3, none⟩ = some (.int .i64 0) := BR.cell 3; have e4 : w9.cell? ⟨w.heap.size, 4, none⟩ = some (.int .i64 0) := BR.cell 4); (have u0 : w9.frozen? ⟨w.heap.size, 0, none⟩ = false := BR.free 0; have u1 : w9.frozen? ⟨w.heap.size, 1, none⟩ = false := BR.free 1; have u2 : w9.frozen? ⟨w.heap.size, 2, none⟩ = false := BR.free 2; have u3 : w9.frozen? ⟨w.heap.size, 3, none⟩ = false := BR.free 3; have u4 : w9.frozen? ⟨w.heap.size, 4, none⟩ = false := BR.free 4)))
  go_wp2
  refine bodyPost_ret (v := .tuple #[.agg #[.string x.Id, .int .i64 x.Trees, .int .i64 x.Height, .int .i64 x.Cover, .int .i64 x.Gap], .int .i64 q]) (by simp [results, Try.results11, go_sem, e0, e1, e2, e3, e4]) rfl ?_
  exact ⟨⟨x, q, rfl, HI1.out, hq0, hq1⟩, below_of_grown (only_setAll GG (Nat.le_refl _) (SStand.cells x) 0) (Nat.le_refl _) hbase⟩
theorem DrawYearsUntil_any {w : World} (A : Option Addr) (n c : Nat) (hn : n ≤ 1048576) (hnc : n ≤ c) (hc : c ≤ 9223372036854775807) (hby : Bytes8 w w.heap.size A n) :
    Calls Try.prog 13 #[.slice A n c] w fun e w' => (∃ (x : SStand) (s k : Int), e = .returned (.tuple #[.agg #[.string x.Id, .int .i64 x.Trees, .int .i64 x.Height, .int .i64 x.Cover, .int .i64 x.Gap], .int .i64 s, .int .i64 k]) ∧ x.Id.size ≤ 3 ∧ -1 ≤ s ∧ s ≤ 3000 ∧ -1 ≤ k ∧ k ≤ 3000) ∧ Below w.heap.size w w' := by
  have HBY := Lib.hid hby
  clear hby
  go_enter Try.func13, Try.ntmps13
  go_wp2_with fail
  refine calls_box_out ?_
  intro W hbw B1
  have hbase : w.heap.size ≤ W.heap.size := hbw.size
  have hlw := B1.lt
  refine (from_any A n c hbase hn hnc hc (HBY.out.below hbw (Nat.le_refl _))).mono ?_
  rintro e w1 ⟨rfl, S1, hb1⟩
  have B1 := B1.below hb1
  have hbw := Bel.trans hbw hb1
  obtain ⟨g, hgg⟩ : ∃ g, g = W.heap.size := ⟨_, rfl⟩
  rw [← hgg] at S1 hlw hbase ⊢
  clear hgg
  have hbase1 : w.heap.size ≤ w1.heap.size := hbw.size
  clear hb1 HBY
  go_wp2_with fail
  refine (l10DrawOne_any ⟨#[102, 105, 114]⟩ S1 (by omega) hbase1).mono ?_
  rintro e w2 ⟨⟨x0, rfl, hi0, hx0, hx1⟩, S2, G2⟩
  have hbase2 : w.heap.size ≤ w2.heap.size := Nat.le_trans hbase1 G2.size
  have B1 := B1.grown G2 (by omega)
  have HI0 := Lib.hid hi0
  clear S1 hi0
  go_wp2_with fail
  refine (l10Bend_any x0 S2 (by omega) hbase2 hx0 hx1).mono ?_
  rintro e w3 ⟨⟨x, rfl, hi1, hx2, hx3⟩, S3, G3⟩
  have B1 := B1.grown G3 (by omega)
  have G3 := ((Grown.bel hbw).trans G2).trans G3
  have hl3 := B1.lt
  have hg3 := S3.lt
  have HI1 : Hid (x.Id.size ≤ 3) := Lib.hid (by rw [hi1, HI0.out]; decide)
  clear hi1 HI0 S2 G2 hx0 hx1 hbase1 hbase2 hbw
  go_wp2_with fail
  refine calls_box_out ?_
  intro W5 hb4 B5
  have S4 := S3.below hb4
  have G4 := only_below G3 hb4
  have B1 := B1.below hb4
  have hne : g ≠ w3.heap.size := by omega
  have hl3W := B5.lt
  clear S3 G3 hb4
  have hbs5 : w.heap.size ≤ W5.heap.size := G4.size
  refine (l10DrawSnow_any S4 (by omega) hbs5).mono ?_
  rintro e W4 ⟨⟨s, rfl, hs0, hs1⟩, S5, G5⟩
  have B5 := B5.grown G5 (by omega)
  have B1 := B1.grown G5 (by omega)
  have S4 := S5
  have G4 := G4.trans G5
  clear S5 G5 hbs5
  go_wp2_with fail
  have hbs : w.heap.size ≤ W4.heap.size := G4.size
  have c0 : W4.cell? ⟨w3.heap.size, 0, none⟩ = some (.string x.Id) := B5.cell 0
  have c1 : W4.cell? ⟨w3.heap.size, 1, none⟩ = some (.int .i64 x.Trees) := B5.cell 1
  have c2 : W4.cell? ⟨w3.heap.size, 2, none⟩ = some (.int .i64 x.Height) := B5.cell 2
  have c3 : W4.cell? ⟨w3.heap.size, 3, none⟩ = some (.int .i64 x.Cover) := B5.cell 3
  have c4 : W4.cell? ⟨w3.heap.size, 4, none⟩ = some (.int .i64 x.Gap) := B5.cell 4
  have d0 : W4.cell? ⟨w.heap.size, 0, none⟩ = some (.string zeroStand.Id) := B1.cell 0
  have d1 : W4.cell? ⟨w.heap.size, 1, none⟩ = some (.int .i64 zeroStand.Trees) := B1.cell 1
  have d2 : W4.cell? ⟨w.heap.size, 2, none⟩ = some (.int .i64 zeroStand.Height) := B1.cell 2
  have d3 : W4.cell? ⟨w.heap.size, 3, none⟩ = some (.int .i64 zeroStand.Cover) := B1.cell 3
  have d4 : W4.cell? ⟨w.heap.size, 4, none⟩ = some (.int .i64 zeroStand.Gap) := B1.cell 4
  have y0 : W4.frozen? ⟨w.heap.size, 0, none⟩ = false := B1.free 0
  have y1 : W4.frozen? ⟨w.heap.size, 1, none⟩ = false := B1.free 1
  have y2 : W4.frozen? ⟨w.heap.size, 2, none⟩ = false := B1.free 2
  have y3 : W4.frozen? ⟨w.heap.size, 3, none⟩ = false := B1.free 3
  have y4 : W4.frozen? ⟨w.heap.size, 4, none⟩ = false := B1.free 4
  have HB1 := Lib.hid B1
  clear B1
  have H : ∀ w', Box 25 w' w3.heap.size #[.string x.Id, .int .i64 x.Trees, .int .i64 x.Height, .int .i64 x.Cover, .int .i64 x.Gap] → (∃ k, k ≤ 1000 ∧ Src w' w.heap.size g k) → w.grownBy w' (some g) →
      (w'.cell? ⟨w3.heap.size, 0, none⟩ = some (.string x.Id) ∧ w'.cell? ⟨w3.heap.size, 1, none⟩ = some (.int .i64 x.Trees) ∧ w'.cell? ⟨w3.heap.size, 2, none⟩ = some (.int .i64 x.Height) ∧ w'.cell? ⟨w3.heap.size, 3, none⟩ = some (.int .i64 x.Cover) ∧ w'.cell? ⟨w3.heap.size, 4, none⟩ = some (.int .i64 x.Gap)) ∧ Box 25 w' w3.heap.size #[.string x.Id, .int .i64 x.Trees, .int .i64 x.Height, .int .i64 x.Cover, .int .i64 x.Gap] ∧ (∃ k, k ≤ 1000 ∧ Src w' w.heap.size g k) ∧ w.grownBy w' (some g) :=
    fun w' hB hS hG => ⟨⟨hB.cell 0, hB.cell 1, hB.cell 2, hB.cell 3, hB.cell 4⟩, hB, hS, hG⟩
  have S4d : Src W4.drew w.heap.size g 20 := (S4.below ((Below.refl _ _).drew)).up (by omega)
  have G4d : w.grownBy W4.drew (some g) := only_below G4 ((Below.refl _ _).drew)
  have B5d : Box 25 W4.drew w3.heap.size #[.string x.Id, .int .i64 x.Trees, .int .i64 x.Height, .int .i64 x.Cover, .int .i64 x.Gap] := B5
  have B1d : Box 25 W4.drew w.heap.size #[.string zeroStand.Id, .int .i64 zeroStand.Trees, .int .i64 zeroStand.Height, .int .i64 zeroStand.Cover, .int .i64 zeroStand.Gap] := HB1.out
  have hsz : W4.drew.heap.size = W4.heap.size := rfl
  have hgW : g < W4.heap.size := S4.lt
  have h3W : w3.heap.size < W4.heap.size := B5.lt
  clear S4 HB1
  clear B5 c0 c1 c2 c3 c4 d0 d1 d2 d3 d4 y0 y1 y2 y3 y4
  have hk20 : 20 ≤ 1000 := by decide
  have hk40 : 40 ≤ 1000 := by decide
  have hsx : w3.heap.size ≠ w.heap.size := by omega
  have hsg : g ≠ w.heap.size := by omega
  have hs3 : w3.heap.size ≠ g := by omega
  have hsr : w.heap.size ≠ g := by omega
  have hbd : w.heap.size ≤ W4.drew.heap.size := hbs
  have hm20 : 20 ≤ 10000000000 := by decide
  clear hsz
  go_region_held3 (fun w' => (w'.cell? ⟨w3.heap.size, 0, none⟩ = some (.string x.Id) ∧ w'.cell? ⟨w3.heap.size, 1, none⟩ = some (.int .i64 x.Trees) ∧ w'.cell? ⟨w3.heap.size, 2, none⟩ = some (.int .i64 x.Height) ∧ w'.cell? ⟨w3.heap.size, 3, none⟩ = some (.int .i64 x.Cover) ∧ w'.cell? ⟨w3.heap.size, 4, none⟩ = some (.int .i64 x.Gap)) ∧ Box 25 w' w3.heap.size #[.string x.Id, .int .i64 x.Trees, .int .i64 x.Height, .int .i64 x.Cover, .int .i64 x.Gap] ∧ (∃ k, k ≤ 1000 ∧ Src w' w.heap.size g k) ∧ w.grownBy w' (some g))
    ((first | (with_reducible exact H _ B5d ⟨20, hk20, S4d⟩ G4d) | (with_reducible exact H _ BB ⟨40, hk40, S9⟩ GG) | exact H _ (Box.farAll BB hsx (SStand.cells x) 0) ⟨40, hk40, Src.setAll S9 (Nat.le_refl _) hsg (SStand.cells x) 0⟩ (only_setAll GG (Nat.le_refl _) (SStand.cells x) 0))) (first
    | (go_at_call 46; refine (l10DrawLeast_any (m := 20) S4d (by decide) hbd).mono ?_; rintro e w9 ⟨⟨q, rfl, hq0, hq1⟩, S9, G9⟩; have S9 := S9.up (m' := 40) (by decide); have GG := Grown.trans G4d G9;
        have BB := Box.grown B5d G9 hs3; have BR := Box.grown B1d G9 hsr; (have e0 : w9.cell? ⟨w.heap.size, 0, none⟩ = some (.string ⟨#[]⟩) := BR.cell 0; have e1 : w9.cell? ⟨w.heap.size, 1, none⟩ = some (.int .i64 0) := BR.cell 1; have e2 : w9.cell? ⟨w.heap.size, 2, none⟩ = some (.int .i64 0) := BR.cell 2; have e3 : w9.cell? ⟨w.heap.size, 3, none⟩ = some (.int .i64 0) := BR.cell 3; have e4 : w9.cell? ⟨w.heap.size, 4, none⟩ = some (.int .i64 0) := BR.cell 4); (have u0 : w9.frozen? ⟨w.heap.size, 0, none⟩ = false := BR.free 0; have u1 : w9.frozen? ⟨w.heap.size, 1, none⟩ = false := BR.free 1; have u2 : w9.frozen? ⟨w.heap.size, 2, none⟩ = false := BR.free 2; have u3 : w9.frozen? ⟨w.heap.size, 3, none⟩ = false := BR.free 3; have u4 : w9.frozen? ⟨w.heap.size, 4, none⟩ = false := BR.free 4)))
  go_wp2
  refine bodyPost_ret (v := .tuple #[.agg #[.string x.Id, .int .i64 x.Trees, .int .i64 x.Height, .int .i64 x.Cover, .int .i64 x.Gap], .int .i64 s, .int .i64 q]) (by simp [results, Try.results13, go_sem, e0, e1, e2, e3, e4]) rfl ?_
  exact ⟨⟨x, s, q, rfl, HI1.out, hs0, hs1, hq0, hq1⟩, below_of_grown (only_setAll GG (Nat.le_refl _) (SStand.cells x) 0) (Nat.le_refl _) hbase⟩
theorem DrawProtectionOf_any {w : World} (A : Option Addr) (n c : Nat) (hn : n ≤ 1048576) (hnc : n ≤ c) (hc : c ≤ 9223372036854775807) (hby : Bytes8 w w.heap.size A n) :
    Calls Try.prog 8 #[.slice A n c] w fun e w' => (∃ (x : SStand) (k : Int), e = .returned (.tuple #[.agg #[.string x.Id, .int .i64 x.Trees, .int .i64 x.Height, .int .i64 x.Cover, .int .i64 x.Gap], .int .i64 k]) ∧ x.Id.size ≤ 3 ∧ -1 ≤ k ∧ k ≤ 3000) ∧ Below w.heap.size w w' := by
  have HBY := Lib.hid hby
  clear hby
  go_enter Try.func8, Try.ntmps8
  go_wp2_with fail
  refine calls_box_out ?_
  intro W hbw B1
  have hbase : w.heap.size ≤ W.heap.size := hbw.size
  have hlw := B1.lt
  refine (from_any A n c hbase hn hnc hc (HBY.out.below hbw (Nat.le_refl _))).mono ?_
  rintro e w1 ⟨rfl, S1, hb1⟩
  have B1 := B1.below hb1
  have hbw := Bel.trans hbw hb1
  obtain ⟨g, hgg⟩ : ∃ g, g = W.heap.size := ⟨_, rfl⟩
  rw [← hgg] at S1 hlw hbase ⊢
  clear hgg
  have hbase1 : w.heap.size ≤ w1.heap.size := hbw.size
  clear hb1 HBY
  go_wp2_with fail
  refine (l10DrawOne_any ⟨#[102, 105, 114]⟩ S1 (by omega) hbase1).mono ?_
  rintro e w2 ⟨⟨x0, rfl, hi0, hx0, hx1⟩, S2, G2⟩
  have hbase2 : w.heap.size ≤ w2.heap.size := Nat.le_trans hbase1 G2.size
  have B1 := B1.grown G2 (by omega)
  have HI0 := Lib.hid hi0
  clear S1 hi0
  go_wp2_with fail
  refine (l10Bend_any x0 S2 (by omega) hbase2 hx0 hx1).mono ?_
  rintro e w3 ⟨⟨x, rfl, hi1, hx2, hx3⟩, S3, G3⟩
  have B1 := B1.grown G3 (by omega)
  have G3 := ((Grown.bel hbw).trans G2).trans G3
  have hl3 := B1.lt
  have hg3 := S3.lt
  have HI1 : Hid (x.Id.size ≤ 3) := Lib.hid (by rw [hi1, HI0.out]; decide)
  clear hi1 HI0 S2 G2 hx0 hx1 hbase1 hbase2 hbw
  go_wp2_with fail
  refine calls_box_out ?_
  intro W5 hb4 B5
  have S4 := S3.below hb4
  have G4 := only_below G3 hb4
  have B1 := B1.below hb4
  have hne : g ≠ w3.heap.size := by omega
  have hl3W := B5.lt
  clear S3 G3 hb4
  refine (one_any 3 S4 (by omega) (by omega)).mono ?_
  rintro e W4 ⟨⟨b, rfl⟩, S5, G5⟩
  have B5 := B5.grown G5 (by omega)
  have B1 := B1.grown G5 (by omega)
  have S4 := S5
  have G4 := G4.trans G5
  clear S5 G5
  cases b
  · go_wp2_with fail
    have hbs : w.heap.size ≤ W4.heap.size := G4.size
    have c0 : W4.cell? ⟨w3.heap.size, 0, none⟩ = some (.string x.Id) := B5.cell 0
    have c1 : W4.cell? ⟨w3.heap.size, 1, none⟩ = some (.int .i64 x.Trees) := B5.cell 1
    have c2 : W4.cell? ⟨w3.heap.size, 2, none⟩ = some (.int .i64 x.Height) := B5.cell 2
    have c3 : W4.cell? ⟨w3.heap.size, 3, none⟩ = some (.int .i64 x.Cover) := B5.cell 3
    have c4 : W4.cell? ⟨w3.heap.size, 4, none⟩ = some (.int .i64 x.Gap) := B5.cell 4
    have d0 : W4.cell? ⟨w.heap.size, 0, none⟩ = some (.string zeroStand.Id) := B1.cell 0
    have d1 : W4.cell? ⟨w.heap.size, 1, none⟩ = some (.int .i64 zeroStand.Trees) := B1.cell 1
    have d2 : W4.cell? ⟨w.heap.size, 2, none⟩ = some (.int .i64 zeroStand.Height) := B1.cell 2
    have d3 : W4.cell? ⟨w.heap.size, 3, none⟩ = some (.int .i64 zeroStand.Cover) := B1.cell 3
    have d4 : W4.cell? ⟨w.heap.size, 4, none⟩ = some (.int .i64 zeroStand.Gap) := B1.cell 4
    have y0 : W4.frozen? ⟨w.heap.size, 0, none⟩ = false := B1.free 0
    have y1 : W4.frozen? ⟨w.heap.size, 1, none⟩ = false := B1.free 1
    have y2 : W4.frozen? ⟨w.heap.size, 2, none⟩ = false := B1.free 2
    have y3 : W4.frozen? ⟨w.heap.size, 3, none⟩ = false := B1.free 3
    have y4 : W4.frozen? ⟨w.heap.size, 4, none⟩ = false := B1.free 4
    have HB1 := Lib.hid B1
    clear B1
    have H : ∀ w', Box 25 w' w3.heap.size #[.string x.Id, .int .i64 x.Trees, .int .i64 x.Height, .int .i64 x.Cover, .int .i64 x.Gap] → (∃ k, k ≤ 1000 ∧ Src w' w.heap.size g k) → w.grownBy w' (some g) →
        (w'.cell? ⟨w3.heap.size, 0, none⟩ = some (.string x.Id) ∧ w'.cell? ⟨w3.heap.size, 1, none⟩ = some (.int .i64 x.Trees) ∧ w'.cell? ⟨w3.heap.size, 2, none⟩ = some (.int .i64 x.Height) ∧ w'.cell? ⟨w3.heap.size, 3, none⟩ = some (.int .i64 x.Cover) ∧ w'.cell? ⟨w3.heap.size, 4, none⟩ = some (.int .i64 x.Gap)) ∧ Box 25 w' w3.heap.size #[.string x.Id, .int .i64 x.Trees, .int .i64 x.Height, .int .i64 x.Cover, .int .i64 x.Gap] ∧ (∃ k, k ≤ 1000 ∧ Src w' w.heap.size g k) ∧ w.grownBy w' (some g) :=
      fun w' hB hS hG => ⟨⟨hB.cell 0, hB.cell 1, hB.cell 2, hB.cell 3, hB.cell 4⟩, hB, hS, hG⟩
    have S4d : Src W4.drew w.heap.size g 20 := (S4.below ((Below.refl _ _).drew)).up (by omega)
    have G4d : w.grownBy W4.drew (some g) := only_below G4 ((Below.refl _ _).drew)
    have B5d : Box 25 W4.drew w3.heap.size #[.string x.Id, .int .i64 x.Trees, .int .i64 x.Height, .int .i64 x.Cover, .int .i64 x.Gap] := B5
    have B1d : Box 25 W4.drew w.heap.size #[.string zeroStand.Id, .int .i64 zeroStand.Trees, .int .i64 zeroStand.Height, .int .i64 zeroStand.Cover, .int .i64 zeroStand.Gap] := HB1.out
    have hsz : W4.drew.heap.size = W4.heap.size := rfl
    have hgW : g < W4.heap.size := S4.lt
    have h3W : w3.heap.size < W4.heap.size := B5.lt
    clear S4 HB1
    clear B5 c0 c1 c2 c3 c4 d0 d1 d2 d3 d4 y0 y1 y2 y3 y4
    have hk20 : 20 ≤ 1000 := by decide
    have hk40 : 40 ≤ 1000 := by decide
    have hsx : w3.heap.size ≠ w.heap.size := by omega
    have hsg : g ≠ w.heap.size := by omega
    have hs3 : w3.heap.size ≠ g := by omega
    have hsr : w.heap.size ≠ g := by omega
    have hbd : w.heap.size ≤ W4.drew.heap.size := hbs
    have hm20 : 20 ≤ 10000000000 := by decide
    clear hsz
    go_region_held3 (fun w' => (w'.cell? ⟨w3.heap.size, 0, none⟩ = some (.string x.Id) ∧ w'.cell? ⟨w3.heap.size, 1, none⟩ = some (.int .i64 x.Trees) ∧ w'.cell? ⟨w3.heap.size, 2, none⟩ = some (.int .i64 x.Height) ∧ w'.cell? ⟨w3.heap.size, 3, none⟩ = some (.int .i64 x.Cover) ∧ w'.cell? ⟨w3.heap.size, 4, none⟩ = some (.int .i64 x.Gap)) ∧ Box 25 w' w3.heap.size #[.string x.Id, .int .i64 x.Trees, .int .i64 x.Height, .int .i64 x.Cover, .int .i64 x.Gap] ∧ (∃ k, k ≤ 1000 ∧ Src w' w.heap.size g k) ∧ w.grownBy w' (some g))
      ((first | (with_reducible exact H _ B5d ⟨20, hk20, S4d⟩ G4d) | (with_reducible exact H _ BB ⟨40, hk40, S9⟩ GG) | exact H _ (Box.farAll BB hsx (SStand.cells x) 0) ⟨40, hk40, Src.setAll S9 (Nat.le_refl _) hsg (SStand.cells x) 0⟩ (only_setAll GG (Nat.le_refl _) (SStand.cells x) 0))) (first
      | (go_at_call 41; refine (l10DrawSnow_any (m := 20) S4d (by decide) hbd).mono ?_; rintro e w9 ⟨⟨q, rfl, hq0, hq1⟩, S9, G9⟩; have S9 := S9.up (m' := 40) (by decide); have GG := Grown.trans G4d G9;
          have BB := Box.grown B5d G9 hs3; have BR := Box.grown B1d G9 hsr; (have e0 : w9.cell? ⟨w.heap.size, 0, none⟩ = some (.string ⟨#[]⟩) := BR.cell 0; have e1 : w9.cell? ⟨w.heap.size, 1, none⟩ = some (.int .i64 0) := BR.cell 1; have e2 : w9.cell? ⟨w.heap.size, 2, none⟩ = some (.int .i64 0) := BR.cell 2; have e3 : w9.cell? ⟨w.heap.size, 3, none⟩ = some (.int .i64 0) := BR.cell 3; have e4 : w9.cell? ⟨w.heap.size, 4, none⟩ = some (.int .i64 0) := BR.cell 4); (have u0 : w9.frozen? ⟨w.heap.size, 0, none⟩ = false := BR.free 0; have u1 : w9.frozen? ⟨w.heap.size, 1, none⟩ = false := BR.free 1; have u2 : w9.frozen? ⟨w.heap.size, 2, none⟩ = false := BR.free 2; have u3 : w9.frozen? ⟨w.heap.size, 3, none⟩ = false := BR.free 3; have u4 : w9.frozen? ⟨w.heap.size, 4, none⟩ = false := BR.free 4)))
    go_wp2
    refine bodyPost_ret (v := .tuple #[.agg #[.string x.Id, .int .i64 x.Trees, .int .i64 x.Height, .int .i64 x.Cover, .int .i64 x.Gap], .int .i64 q]) (by simp [results, Try.results8, go_sem, e0, e1, e2, e3, e4]) rfl ?_
    exact ⟨⟨x, q, rfl, HI1.out, hq0, hq1⟩, below_of_grown (only_setAll GG (Nat.le_refl _) (SStand.cells x) 0) (Nat.le_refl _) hbase⟩
  · have ht := half_bd hx2 hx3
    have HT := Lib.hid ht
    clear ht
    go_wp2_with fail
    have hbs : w.heap.size ≤ W4.heap.size := G4.size
    have c0 : W4.cell? ⟨w3.heap.size, 0, none⟩ = some (.string x.Id) := B5.cell 0
    have c1 : W4.cell? ⟨w3.heap.size, 1, none⟩ = some (.int .i64 x.Trees) := B5.cell 1
    have c2 : W4.cell? ⟨w3.heap.size, 2, none⟩ = some (.int .i64 x.Height) := B5.cell 2
    have c3 : W4.cell? ⟨w3.heap.size, 3, none⟩ = some (.int .i64 x.Cover) := B5.cell 3
    have c4 : W4.cell? ⟨w3.heap.size, 4, none⟩ = some (.int .i64 x.Gap) := B5.cell 4
    have d0 : W4.cell? ⟨w.heap.size, 0, none⟩ = some (.string zeroStand.Id) := B1.cell 0
    have d1 : W4.cell? ⟨w.heap.size, 1, none⟩ = some (.int .i64 zeroStand.Trees) := B1.cell 1
    have d2 : W4.cell? ⟨w.heap.size, 2, none⟩ = some (.int .i64 zeroStand.Height) := B1.cell 2
    have d3 : W4.cell? ⟨w.heap.size, 3, none⟩ = some (.int .i64 zeroStand.Cover) := B1.cell 3
    have d4 : W4.cell? ⟨w.heap.size, 4, none⟩ = some (.int .i64 zeroStand.Gap) := B1.cell 4
    have y0 : W4.frozen? ⟨w.heap.size, 0, none⟩ = false := B1.free 0
    have y1 : W4.frozen? ⟨w.heap.size, 1, none⟩ = false := B1.free 1
    have y2 : W4.frozen? ⟨w.heap.size, 2, none⟩ = false := B1.free 2
    have y3 : W4.frozen? ⟨w.heap.size, 3, none⟩ = false := B1.free 3
    have y4 : W4.frozen? ⟨w.heap.size, 4, none⟩ = false := B1.free 4
    have HB1 := Lib.hid B1
    clear B1
    have H : ∀ w', Box 25 w' w3.heap.size #[.string x.Id, .int .i64 x.Trees, .int .i64 x.Height, .int .i64 x.Cover, .int .i64 x.Gap] → (∃ k, k ≤ 1000 ∧ Src w' w.heap.size g k) → w.grownBy w' (some g) →
        (w'.cell? ⟨w3.heap.size, 0, none⟩ = some (.string x.Id) ∧ w'.cell? ⟨w3.heap.size, 1, none⟩ = some (.int .i64 x.Trees) ∧ w'.cell? ⟨w3.heap.size, 2, none⟩ = some (.int .i64 x.Height) ∧ w'.cell? ⟨w3.heap.size, 3, none⟩ = some (.int .i64 x.Cover) ∧ w'.cell? ⟨w3.heap.size, 4, none⟩ = some (.int .i64 x.Gap)) ∧ Box 25 w' w3.heap.size #[.string x.Id, .int .i64 x.Trees, .int .i64 x.Height, .int .i64 x.Cover, .int .i64 x.Gap] ∧ (∃ k, k ≤ 1000 ∧ Src w' w.heap.size g k) ∧ w.grownBy w' (some g) :=
      fun w' hB hS hG => ⟨⟨hB.cell 0, hB.cell 1, hB.cell 2, hB.cell 3, hB.cell 4⟩, hB, hS, hG⟩
    have S4d : Src W4.drew w.heap.size g 20 := (S4.below ((Below.refl _ _).drew)).up (by omega)
    have G4d : w.grownBy W4.drew (some g) := only_below G4 ((Below.refl _ _).drew)
    have B5d : Box 25 W4.drew w3.heap.size #[.string x.Id, .int .i64 x.Trees, .int .i64 x.Height, .int .i64 x.Cover, .int .i64 x.Gap] := B5
    have B1d : Box 25 W4.drew w.heap.size #[.string zeroStand.Id, .int .i64 zeroStand.Trees, .int .i64 zeroStand.Height, .int .i64 zeroStand.Cover, .int .i64 zeroStand.Gap] := HB1.out
    have hsz : W4.drew.heap.size = W4.heap.size := rfl
    have hgW : g < W4.heap.size := S4.lt
    have h3W : w3.heap.size < W4.heap.size := B5.lt
    clear S4 HB1
    clear B5 c0 c1 c2 c3 c4 d0 d1 d2 d3 d4 y0 y1 y2 y3 y4
    have hk20 : 20 ≤ 1000 := by decide
    have hk40 : 40 ≤ 1000 := by decide
    have hsx : w3.heap.size ≠ w.heap.size := by omega
    have hsg : g ≠ w.heap.size := by omega
    have hs3 : w3.heap.size ≠ g := by omega
    have hsr : w.heap.size ≠ g := by omega
    have hbd : w.heap.size ≤ W4.drew.heap.size := hbs
    have hm20 : 20 ≤ 10000000000 := by decide
    clear hsz
    go_region_held3 (fun w' => (w'.cell? ⟨w3.heap.size, 0, none⟩ = some (.string x.Id) ∧ w'.cell? ⟨w3.heap.size, 1, none⟩ = some (.int .i64 x.Trees) ∧ w'.cell? ⟨w3.heap.size, 2, none⟩ = some (.int .i64 x.Height) ∧ w'.cell? ⟨w3.heap.size, 3, none⟩ = some (.int .i64 x.Cover) ∧ w'.cell? ⟨w3.heap.size, 4, none⟩ = some (.int .i64 x.Gap)) ∧ Box 25 w' w3.heap.size #[.string x.Id, .int .i64 x.Trees, .int .i64 x.Height, .int .i64 x.Cover, .int .i64 x.Gap] ∧ (∃ k, k ≤ 1000 ∧ Src w' w.heap.size g k) ∧ w.grownBy w' (some g))
      ((first | (with_reducible exact H _ B5d ⟨20, hk20, S4d⟩ G4d) | (with_reducible exact H _ BB ⟨40, hk40, S9⟩ GG) | exact H _ (Box.farAll BB hsx (SStand.cells x) 0) ⟨40, hk40, Src.setAll S9 (Nat.le_refl _) hsg (SStand.cells x) 0⟩ (only_setAll GG (Nat.le_refl _) (SStand.cells x) 0))) (first
      | (go_at_call 40; refine (pick_any 2 (m := 20) S4d (by decide) (by decide)).mono ?_; rintro e w9 ⟨⟨q, rfl, hq0, hq1⟩, S9, G9⟩; have S9 := S9.up (m' := 40) (by decide); have GG := Grown.trans G4d G9;
          have BB := Box.grown B5d G9 hs3; have BR := Box.grown B1d G9 hsr; (have e0 : w9.cell? ⟨w.heap.size, 0, none⟩ = some (.string ⟨#[]⟩) := BR.cell 0; have e1 : w9.cell? ⟨w.heap.size, 1, none⟩ = some (.int .i64 0) := BR.cell 1; have e2 : w9.cell? ⟨w.heap.size, 2, none⟩ = some (.int .i64 0) := BR.cell 2; have e3 : w9.cell? ⟨w.heap.size, 3, none⟩ = some (.int .i64 0) := BR.cell 3; have e4 : w9.cell? ⟨w.heap.size, 4, none⟩ = some (.int .i64 0) := BR.cell 4); (have u0 : w9.frozen? ⟨w.heap.size, 0, none⟩ = false := BR.free 0; have u1 : w9.frozen? ⟨w.heap.size, 1, none⟩ = false := BR.free 1; have u2 : w9.frozen? ⟨w.heap.size, 2, none⟩ = false := BR.free 2; have u3 : w9.frozen? ⟨w.heap.size, 3, none⟩ = false := BR.free 3; have u4 : w9.frozen? ⟨w.heap.size, 4, none⟩ = false := BR.free 4)))
    go_wp2
    obtain ⟨ht0, ht1⟩ := HT.out
    have hw1 : IntKind.i64.wrap (x.Height.tdiv 2) = x.Height.tdiv 2 := by rw [IntKind.wrap_i64]; omega
    have hw2 : IntKind.i64.wrap (IntKind.i64.wrap (x.Height.tdiv 2) + q) = x.Height.tdiv 2 + q := by rw [hw1, IntKind.wrap_i64]; omega
    refine bodyPost_ret (v := .tuple #[.agg #[.string x.Id, .int .i64 x.Trees, .int .i64 x.Height, .int .i64 x.Cover, .int .i64 x.Gap], .int .i64 (IntKind.i64.wrap (IntKind.i64.wrap (x.Height.tdiv 2) + q))]) (by simp [results, Try.results8, go_sem, e0, e1, e2, e3, e4]) rfl ?_
    exact ⟨⟨x, IntKind.i64.wrap (IntKind.i64.wrap (x.Height.tdiv 2) + q), rfl, HI1.out, by rw [hw2]; omega, by rw [hw2]; omega⟩, below_of_grown (only_setAll GG (Nat.le_refl _) (SStand.cells x) 0) (Nat.le_refl _) hbase⟩
end Go.Proofs.Ytcjalooaikfkbaa
