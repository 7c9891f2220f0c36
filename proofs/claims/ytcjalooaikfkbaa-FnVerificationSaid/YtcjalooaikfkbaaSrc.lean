/- The source of choices: what each step hands back, and that it changes its own block alone. -/
import Derived.Test.YtcjalooaikfkbaaApp
import Derived.Test.YtcjalooaikfkbaaCom
import Derived.Laws.Bits64b
import Derived.Laws.BitsAllLaws
namespace Go.Proofs.Ytcjalooaikfkbaa
set_option linter.unusedSimpArgs false
set_option linter.unusedVariables false
open Go.RowKit
set_option maxHeartbeats 400000
theorem Grown.trans {w w1 w2 : World} {row : Option Nat} (h : w.grownBy w1 row) (k : w1.grownBy w2 row) : w.grownBy w2 row :=
  ⟨k.os.trans h.os, k.tape.trans h.tape, k.output.trans h.output, Nat.le_trans h.size k.size, fun n hn hne => (k.block n (Nat.lt_of_lt_of_le hn h.size) hne).trans (h.block n hn hne)⟩
theorem Grown.bel {w w1 : World} {row : Option Nat} (hb : Below w.heap.size w w1) : w.grownBy w1 row := only_below (World.grownBy.refl _ _) hb
/-- A source of choices lies in block g; its bytes lie below base; it has been read m times at most. -/
def Src (w : World) (base g m : Nat) : Prop := base ≤ g ∧ ∃ (A : Option Addr) (n c k : Nat) (sd : Int), Box 99 w g #[.slice A n c, .int .i64 k, .int .u64 sd] ∧ k ≤ m ∧ n ≤ 1048576 ∧ n ≤ c ∧ c ≤ 9223372036854775807 ∧ 0 ≤ sd ∧ sd < 18446744073709551616 ∧
  (∀ i, i < n → ∃ b o v, A = some ⟨b, o, none⟩ ∧ b < base ∧ b < w.heap.size ∧ w.cell? ⟨b, o + i, none⟩ = some (.int .u8 v) ∧ 0 ≤ v ∧ v ≤ 255)
theorem Src.lt {w : World} {base g m : Nat} (S : Src w base g m) : g < w.heap.size := by
  obtain ⟨_, _, _, _, _, _, B, _⟩ := S
  exact B.lt
theorem Src.up {w : World} {base g m m' : Nat} (S : Src w base g m) (h : m ≤ m') : Src w base g m' := by
  obtain ⟨h1, A, n, c, k, sd, B, h2, h3⟩ := S
  exact ⟨h1, A, n, c, k, sd, B, by omega, h3⟩
theorem Src.below {w w' : World} {base g m : Nat} (S : Src w base g m) (hb : Below w.heap.size w w') : Src w' base g m := by
  obtain ⟨h1, A, n, c, k, sd, B, h2, h3, h4, h4', h5, h6, h7⟩ := S
  refine ⟨h1, A, n, c, k, sd, B.below hb, h2, h3, h4, h4', h5, h6, fun i hi => ?_⟩
  obtain ⟨b, o, v, e, k1, k2, k3, k4⟩ := h7 i hi
  exact ⟨b, o, v, e, k1, Nat.lt_of_lt_of_le k2 hb.size, (hb.cell (p := ⟨b, o + i, none⟩) k2).trans k3, k4⟩
theorem Src.only {w w' : World} {base g m r : Nat} (S : Src w base g m) (hg : w.grownBy w' (some r)) (hr : base ≤ r) (hne : g ≠ r) : Src w' base g m := by
  obtain ⟨h1, A, n, c, k, sd, B, h2, h3, h4, h4', h5, h6, h7⟩ := S
  refine ⟨h1, A, n, c, k, sd, B.grown hg hne, h2, h3, h4, h4', h5, h6, fun i hi => ?_⟩
  obtain ⟨b, o, v, e, k1, k2, k3, k4⟩ := h7 i hi
  exact ⟨b, o, v, e, k1, Nat.lt_of_lt_of_le k2 hg.size, (World.cell?_of_block (hg.block b k2 (fun e => by injection e with e; omega))).trans k3, k4⟩
theorem Src.set {w : World} {base g m : Nat} (S : Src w base g m) (p : Addr) (u : Value) (hr : base ≤ p.block) (hne : g ≠ p.block) : Src (w.setCell p u) base g m :=
  S.only (r := p.block) ⟨rfl, rfl, rfl, by simp, fun k hk hne => Below.heap_setCell w p u k (fun e => hne (by rw [e]))⟩ hr hne
theorem only_out {w wr : World} {row : Option Nat} (h : w.grownBy wr row) (p : Addr) (u : Value) (hp : w.heap.size ≤ p.block) : w.grownBy (wr.setCell p u) row :=
  ⟨h.os, h.tape, h.output, by simpa [World.setCell] using h.size, fun k hk hne => (Below.heap_setCell wr p u k (by omega)).trans (h.block k hk hne)⟩
theorem shr_and (sd : Int) (h0 : 0 ≤ sd) (h1 : sd < 18446744073709551616) : 0 ≤ bits .and .u64 (sd / 1099511627776) 255 ∧ bits .and .u64 (sd / 1099511627776) 255 ≤ 255 := by
  obtain ⟨n, rfl⟩ := Int.eq_ofNat_of_zero_le h0
  have e : ((n : Int) / 1099511627776) = ((n / 1099511627776 : Nat) : Int) := by omega
  rw [e]
  have := bits_and_u64_nat (n / 1099511627776) 255 (by omega) (by omega)
  rw [show (255 : Int) = ((255 : Nat) : Int) from rfl, this]
  have h2 : (n / 1099511627776) &&& 255 ≤ 255 := Nat.and_le_right
  omega
theorem next_any {w : World} {base g m : Nat} (S : Src w base g m) (hm : m ≤ 1000000000000) :
    Calls Try.prog 79 #[.pointer (some ⟨g, 0, none⟩)] w fun e w' => (∃ r : Int, e = .returned (.int .i64 r) ∧ 0 ≤ r ∧ r ≤ 255) ∧ Src w' base g (m + 1) ∧ w.grownBy w' (some g) := by
  obtain ⟨hgb, A, n, c, k, sd, B, hk, hn, hnc, hc', h0, h1, hrow⟩ := S
  by_cases hlt : k < n
  · obtain ⟨b, o, v, rfl, hb, hb', hc, hv0, hv1⟩ := hrow k hlt
    have p0 := Past.box B (j := 0) (v := .slice (some ⟨b, o, none⟩) n c) rfl
    have p1 := Past.box B (j := 1) (v := .int .i64 k) rfl
    have p2 := Past.box B (j := 2) (v := .int .u64 sd) rfl
    have q := Past.cell hc hb'
    have HR := Lib.hid hrow
    have HB := Lib.hid B
    clear hrow B
    go_enter Try.func79, Try.ntmps79
    go_wp2_with fail
    refine wp_region_past (by kernel_rfl) (by kernel_rfl) ?_
    repeat (go_big_quiet_step (fail))
    refine wpQuiet_nil ?_
    intro W1 hw'
    obtain ⟨⟨W_, hb1⟩, hw''⟩ := hw'
    subst hw''
    clear p0 p1 p2 q
    have B1 := HB.out.below hb1
    have p0 := Past.box B1 (j := 0) (v := .slice (some ⟨b, o, none⟩) n c) rfl
    have p1 := Past.box B1 (j := 1) (v := .int .i64 k) rfl
    have p2 := Past.box B1 (j := 2) (v := .int .u64 sd) rfl
    have q := Past.cell ((hb1.cell (p := ⟨b, o + k, none⟩) hb').trans hc) (Nat.lt_of_lt_of_le hb' hb1.size)
    clear B1
    go_wp2_with fail
    refine wp_region_past (by kernel_rfl) (by kernel_rfl) ?_
    repeat (go_big_quiet_step (fail))
    refine wpQuiet_nil ?_
    intro W2 hw'
    obtain ⟨⟨W_, hb2⟩, hw''⟩ := hw'
    subst hw''
    clear p0 p1 p2 q
    have hb2 := Bel.trans hb1 hb2
    have B2 := HB.out.below hb2
    have c0 : W2.cell? ⟨g, 0, none⟩ = some (.slice (some ⟨b, o, none⟩) n c) := B2.cell 0
    have c1 : W2.cell? ⟨g, 1, none⟩ = some (.int .i64 k) := B2.cell 1
    have c2 : W2.cell? ⟨g, 2, none⟩ = some (.int .u64 sd) := B2.cell 2
    have z0 : W2.frozen? ⟨g, 0, none⟩ = false := B2.free 0
    have z1 : W2.frozen? ⟨g, 1, none⟩ = false := B2.free 1
    have z2 : W2.frozen? ⟨g, 2, none⟩ = false := B2.free 2
    have HB2 := Lib.hid B2
    clear B2 HB
    go_wp2_with fail
    have B3 := (HB2.out.set 1 (.int .i64 ((k : Int) + 1))).set 2 (.int .u64 (IntKind.u64.wrap (IntKind.u64.wrap (IntKind.u64.wrap (sd * 6364136223846793005) + v) + 1442695040888963407)))
    have G3 : W2.grownBy ((W2.setCell ⟨g, 1, none⟩ (.int .i64 ((k : Int) + 1))).setCell ⟨g, 2, none⟩ (.int .u64 (IntKind.u64.wrap (IntKind.u64.wrap (IntKind.u64.wrap (sd * 6364136223846793005) + v) + 1442695040888963407)))) (some g) := only_set (only_set (World.grownBy.refl _ _) rfl _) rfl _
    have hs0 : 0 ≤ IntKind.u64.wrap (IntKind.u64.wrap (IntKind.u64.wrap (sd * 6364136223846793005) + v) + 1442695040888963407) := by rw [IntKind.wrap_u64]; omega
    have hs1 : IntKind.u64.wrap (IntKind.u64.wrap (IntKind.u64.wrap (sd * 6364136223846793005) + v) + 1442695040888963407) < 18446744073709551616 := by rw [IntKind.wrap_u64]; omega
    generalize IntKind.u64.wrap (IntKind.u64.wrap (IntKind.u64.wrap (sd * 6364136223846793005) + v) + 1442695040888963407) = sd' at *
    have HR3 : Hid (∀ W4 : World, Below ((W2.setCell ⟨g, 1, none⟩ (.int .i64 ((k : Int) + 1))).setCell ⟨g, 2, none⟩ (.int .u64 sd')).heap.size ((W2.setCell ⟨g, 1, none⟩ (.int .i64 ((k : Int) + 1))).setCell ⟨g, 2, none⟩ (.int .u64 sd')) W4 → ∀ i, i < n → ∃ b9 o9 v9, some ⟨b, o, none⟩ = some (⟨b9, o9, none⟩ : Addr) ∧ b9 < base ∧ b9 < W4.heap.size ∧ W4.cell? ⟨b9, o9 + i, none⟩ = some (.int .u8 v9) ∧ 0 ≤ v9 ∧ v9 ≤ 255) := Lib.hid fun W4 hb4 i hi => by
      obtain ⟨b', o', v', e1, e2, e3, e4, e5⟩ := HR.out i hi
      have G4 := (Grown.trans (Grown.bel hb2) (only_below G3 hb4))
      exact ⟨b', o', v', e1, e2, Nat.lt_of_lt_of_le e3 G4.size, (World.cell?_of_block (G4.block b' e3 (fun e => by injection e with e; omega))).trans e4, e5⟩
    clear z0 z1 z2 c0 c1 c2
    generalize ((W2.setCell ⟨g, 1, none⟩ (.int .i64 ((k : Int) + 1))).setCell ⟨g, 2, none⟩ (.int .u64 sd')) = W3 at *
    have q0 : W3.cell? ⟨g, 0, none⟩ = some (.slice (some ⟨b, o, none⟩) n c) := B3.cell 0
    have q1 : W3.cell? ⟨g, 1, none⟩ = some (.int .i64 ((k : Int) + 1)) := B3.cell 1
    have q2 : W3.cell? ⟨g, 2, none⟩ = some (.int .u64 sd') := B3.cell 2
    have p0 := Past.cell q0 B3.lt
    have p1 := Past.cell q1 B3.lt
    have p2 := Past.cell q2 B3.lt
    clear q0 q1 q2
    have hle : (k : Int) + 1 ≤ (n : Int) := by omega
    go_wp2_with fail
    refine wp_region_past (by kernel_rfl) (by kernel_rfl) ?_
    repeat (go_big_quiet_step (fail))
    refine wpQuiet_nil ?_
    intro W4 hw'
    obtain ⟨⟨W_, hb4⟩, hw''⟩ := hw'
    subst hw''
    go_wp2
    go_ret
    exact ⟨⟨v, rfl, hv0, hv1⟩, ⟨hgb, _, n, c, k + 1, sd', (by simpa using B3.below hb4), by omega, hn, hnc, hc', hs0, hs1, HR3.out W4 hb4⟩, (Grown.bel hb2).trans (only_below G3 hb4)⟩
  · have hrow0 : Hid (∀ i, i < n → ∃ b9 o9 v9, A = some (⟨b9, o9, none⟩ : Addr) ∧ b9 < base ∧ b9 < w.heap.size ∧ w.cell? ⟨b9, o9 + i, none⟩ = some (.int .u8 v9) ∧ 0 ≤ v9 ∧ v9 ≤ 255) := Lib.hid hrow
    have p0 := Past.box B (j := 0) (v := .slice A n c) rfl
    have p1 := Past.box B (j := 1) (v := .int .i64 k) rfl
    have p2 := Past.box B (j := 2) (v := .int .u64 sd) rfl
    have HR := Lib.hid hrow
    have HB := Lib.hid B
    have hge : ¬ (k : Int) < (n : Int) := by omega
    clear hrow B hrow0
    go_enter Try.func79, Try.ntmps79
    go_wp2_with fail
    refine wp_region_past (by kernel_rfl) (by kernel_rfl) ?_
    repeat (go_big_quiet_step (fail))
    refine wpQuiet_nil ?_
    intro W2 hw'
    obtain ⟨⟨W_, hb2⟩, hw''⟩ := hw'
    subst hw''
    clear p0 p1 p2
    have B2 := HB.out.below hb2
    have c0 : W2.cell? ⟨g, 0, none⟩ = some (.slice A n c) := B2.cell 0
    have c1 : W2.cell? ⟨g, 1, none⟩ = some (.int .i64 k) := B2.cell 1
    have c2 : W2.cell? ⟨g, 2, none⟩ = some (.int .u64 sd) := B2.cell 2
    have z0 : W2.frozen? ⟨g, 0, none⟩ = false := B2.free 0
    have z1 : W2.frozen? ⟨g, 1, none⟩ = false := B2.free 1
    have z2 : W2.frozen? ⟨g, 2, none⟩ = false := B2.free 2
    have HB2 := Lib.hid B2
    clear B2 HB
    go_wp2_with fail
    have B3 := (HB2.out.set 1 (.int .i64 ((k : Int) + 1))).set 2 (.int .u64 (IntKind.u64.wrap (IntKind.u64.wrap (IntKind.u64.wrap (sd * 6364136223846793005)) + 1442695040888963407)))
    have G3 : W2.grownBy ((W2.setCell ⟨g, 1, none⟩ (.int .i64 ((k : Int) + 1))).setCell ⟨g, 2, none⟩ (.int .u64 (IntKind.u64.wrap (IntKind.u64.wrap (IntKind.u64.wrap (sd * 6364136223846793005)) + 1442695040888963407)))) (some g) := only_set (only_set (World.grownBy.refl _ _) rfl _) rfl _
    have hs0 : 0 ≤ IntKind.u64.wrap (IntKind.u64.wrap (IntKind.u64.wrap (sd * 6364136223846793005)) + 1442695040888963407) := by rw [IntKind.wrap_u64]; omega
    have hs1 : IntKind.u64.wrap (IntKind.u64.wrap (IntKind.u64.wrap (sd * 6364136223846793005)) + 1442695040888963407) < 18446744073709551616 := by rw [IntKind.wrap_u64]; omega
    generalize IntKind.u64.wrap (IntKind.u64.wrap (IntKind.u64.wrap (sd * 6364136223846793005)) + 1442695040888963407) = sd' at *
    have HR3 : Hid (∀ W4 : World, Below ((W2.setCell ⟨g, 1, none⟩ (.int .i64 ((k : Int) + 1))).setCell ⟨g, 2, none⟩ (.int .u64 sd')).heap.size ((W2.setCell ⟨g, 1, none⟩ (.int .i64 ((k : Int) + 1))).setCell ⟨g, 2, none⟩ (.int .u64 sd')) W4 → ∀ i, i < n → ∃ b9 o9 v9, A = some (⟨b9, o9, none⟩ : Addr) ∧ b9 < base ∧ b9 < W4.heap.size ∧ W4.cell? ⟨b9, o9 + i, none⟩ = some (.int .u8 v9) ∧ 0 ≤ v9 ∧ v9 ≤ 255) := Lib.hid fun W4 hb4 i hi => by
      obtain ⟨b', o', v', e1, e2, e3, e4, e5⟩ := HR.out i hi
      have G4 := (Grown.trans (Grown.bel hb2) (only_below G3 hb4))
      exact ⟨b', o', v', e1, e2, Nat.lt_of_lt_of_le e3 G4.size, (World.cell?_of_block (G4.block b' e3 (fun e => by injection e with e; omega))).trans e4, e5⟩
    clear z0 z1 z2 c0 c1 c2
    generalize ((W2.setCell ⟨g, 1, none⟩ (.int .i64 ((k : Int) + 1))).setCell ⟨g, 2, none⟩ (.int .u64 sd')) = W3 at *
    have q0 : W3.cell? ⟨g, 0, none⟩ = some (.slice (A) n c) := B3.cell 0
    have q1 : W3.cell? ⟨g, 1, none⟩ = some (.int .i64 ((k : Int) + 1)) := B3.cell 1
    have q2 : W3.cell? ⟨g, 2, none⟩ = some (.int .u64 sd') := B3.cell 2
    have p0 := Past.cell q0 B3.lt
    have p1 := Past.cell q1 B3.lt
    have p2 := Past.cell q2 B3.lt
    clear q0 q1 q2
    have hle : ¬ (k : Int) + 1 ≤ (n : Int) := by omega
    go_wp2_with fail
    refine wp_region_past (by kernel_rfl) (by kernel_rfl) ?_
    repeat (go_big_quiet_step (fail))
    refine wpQuiet_nil ?_
    intro W4 hw'
    obtain ⟨⟨W_, hb4⟩, hw''⟩ := hw'
    subst hw''
    have B4 := B3.below hb4
    have d0 : W4.cell? ⟨g, 0, none⟩ = some (.slice A n c) := B4.cell 0
    have d1 : W4.cell? ⟨g, 1, none⟩ = some (.int .i64 (k + 1)) := B4.cell 1
    have d2 : W4.cell? ⟨g, 2, none⟩ = some (.int .u64 sd') := B4.cell 2
    have HSH := Lib.hid (shr_and sd' hs0 hs1)
    go_wp2
    go_ret
    have hsh := HSH.out
    generalize bits .and .u64 (sd' / 1099511627776) 255 = q at *
    exact ⟨⟨_, rfl, (by unfold wrap64; omega), (by unfold wrap64; omega)⟩, ⟨hgb, _, n, c, k + 1, sd', (by simpa using B4), by omega, hn, hnc, hc', hs0, hs1, HR3.out W4 hb4⟩, (Grown.bel hb2).trans (only_below G3 hb4)⟩
theorem pick_any {w : World} {base g m : Nat} (n : Int) (S : Src w base g m) (hm : m ≤ 100000000000) (hn : n ≤ 1000000) :
    Calls Try.prog 40 #[.pointer (some ⟨g, 0, none⟩), .int .i64 n] w fun e w' => (∃ r : Int, e = .returned (.int .i64 r) ∧ 0 ≤ r ∧ (r < n ∨ r = 0)) ∧ Src w' base g (m + 2) ∧ w.grownBy w' (some g) := by
  have HS := Lib.hid S
  by_cases h1 : n ≤ 1
  · go_enter Try.func40, Try.ntmps40
    go_wp2
    go_ret
    exact ⟨⟨0, rfl, by omega, Or.inr rfl⟩, S.up (by omega), World.grownBy.refl _ _⟩
  · have hz : (n == 0) = false := by simp; omega
    go_enter Try.func40, Try.ntmps40
    go_wp2_with fail
    refine (next_any S (by omega)).mono ?_
    rintro e w1 ⟨⟨r, rfl, hr0, hr1⟩, S1, G1⟩
    have HS1 := Lib.hid S1
    have HG1 := Lib.hid G1
    clear S S1 G1
    have hnm : n ≠ -1 := by omega
    by_cases h2 : 200 < n
    · go_wp2_with fail
      refine (next_any HS1.out (by omega)).mono ?_
      rintro e w2 ⟨⟨r2, rfl, hr2, hr3⟩, S2, G2⟩
      have t := Int.emod_nonneg (r * 256 + r2) (show n ≠ 0 by omega)
      have t2 := Int.emod_lt_of_pos (r * 256 + r2) (show 0 < n by omega)
      have e1 : Int.tmod (r * 256 + r2) n = (r * 256 + r2) % n := Int.tmod_eq_emod_of_nonneg (by omega)
      go_wp2
      go_ret
      exact ⟨⟨(r * 256 + r2) % n, ret_int (by first | rfl | exact e1), t, Or.inl t2⟩, S2, HG1.out.trans G2⟩
    · have t := Int.emod_nonneg r (show n ≠ 0 by omega)
      have t2 := Int.emod_lt_of_pos r (show 0 < n by omega)
      have e1 : Int.tmod r n = r % n := Int.tmod_eq_emod_of_nonneg (by omega)
      go_wp2
      go_ret
      exact ⟨⟨r % n, ret_int (by first | rfl | exact e1), t, Or.inl t2⟩, HS1.out.up (by omega), HG1.out⟩
theorem one_any {w : World} {base g m : Nat} (n : Int) (S : Src w base g m) (hm : m ≤ 100000000000) (hn : n ≤ 1000000) :
    Calls Try.prog 39 #[.pointer (some ⟨g, 0, none⟩), .int .i64 n] w fun e w' => (∃ b : Bool, e = .returned (.bool b)) ∧ Src w' base g (m + 2) ∧ w.grownBy w' (some g) := by
  go_enter Try.func39, Try.ntmps39
  go_wp2_with fail
  refine (pick_any n S hm hn).mono ?_
  rintro e w1 ⟨⟨r, rfl, hr0, hr1⟩, S1, G1⟩
  go_wp2
  go_ret
  exact ⟨⟨_, rfl⟩, S1, G1⟩
theorem among_any {w : World} {base g m : Nat} (xs : List Int) (b c : Nat) (S : Src w base g m) (hm : m ≤ 100000000000) (h0 : 0 < xs.length) (h1 : xs.length ≤ 1000) (B : Box 2 w b (xs.map (fun x => Value.int .i64 x)).toArray) (hbg : b ≠ g) :
    Calls Try.prog 77 #[.pointer (some ⟨g, 0, none⟩), .slice (some ⟨b, 0, none⟩) xs.length c] w fun e w' => (∃ r : Int, e = .returned (.int .i64 r) ∧ r ∈ xs) ∧ Src w' base g (m + 2) ∧ w.grownBy w' (some g) := by
  have HB := Lib.hid B
  clear B
  go_enter Try.func77, Try.ntmps77
  go_wp2_with fail
  refine (pick_any _ S hm (by omega)).mono ?_
  rintro e w1 ⟨⟨r, rfl, hr0, hr1⟩, S1, G1⟩
  obtain ⟨i, rfl⟩ := Int.eq_ofNat_of_zero_le hr0
  have hi : i < xs.length := by omega
  have c1 : w1.cell? ⟨b, i, none⟩ = some (.int .i64 (xs[i])) := by
    rw [(HB.out.grown G1 hbg).cell i]
    simp [hi]
  clear hr1
  go_wp2
  go_ret
  exact ⟨⟨_, rfl, List.getElem_mem hi⟩, S1, G1⟩
end Go.Proofs.Ytcjalooaikfkbaa
