/- Chapter 21: how many hours a gate is shut, how often, and when first: the walks. -/
import Derived.Test.YtinijfdopkohfaaL21d
namespace Go.Proofs.Ytinijfdopkohfaa
set_option linter.unusedSimpArgs false
set_option linter.unusedVariables false
open Go.RowKit
set_option maxHeartbeats 400000
set_option maxRecDepth 100000
theorem shutHours_any (x : SGate) (hs : List Int) (b c : Nat) (w : World) (A : Arr intc 1 w b hs) (hn : hs.length ≤ 1048576) (hx : bdGate x) :
    Calls Try.prog 72 #[.agg #[.string x.Id, .int .i64 x.Shut, .int .i64 x.Open, .int .i64 x.Hold, .bool x.Shuts, .int .i64 x.Calm], .slice (some ⟨b, 0, none⟩) hs.length c] w fun e w' => e = .returned (.tuple #[.int .i64 (shTo x.Shuts (runL x hs hs.length) hs.length).1, .int .i64 (shTo x.Shuts (runL x hs hs.length) hs.length).2.1]) ∧ Below w.heap.size w w' := by
  have HA := Lib.hid A
  clear A
  have hra := runGate_any x hs b c
  have hL := runL_len x hs hs.length
  obtain ⟨L, hLd⟩ : ∃ L, runL x hs hs.length = L := ⟨_, rfl⟩
  rw [hLd] at hL hra
  have HLD := Lib.hid hLd
  have HRA := Lib.hid hra
  clear hLd hra
  go_enter Try.func72, Try.ntmps72
  go_wp2_with fail
  refine wp_box_out ?_
  intro W hbw B
  have p0 := Past.box B (j := 0) (v := .string x.Id) rfl
  have p1 := Past.box B (j := 1) (v := .int .i64 x.Shut) rfl
  have p2 := Past.box B (j := 2) (v := .int .i64 x.Open) rfl
  have p3 := Past.box B (j := 3) (v := .int .i64 x.Hold) rfl
  have p4 := Past.box B (j := 4) (v := .bool x.Shuts) rfl
  have p5 := Past.box B (j := 5) (v := .int .i64 x.Calm) rfl
  refine wp_region_past (by kernel_rfl) (by kernel_rfl) ?_
  repeat (go_big_quiet_step (fail))
  refine wpQuiet_nil ?_
  intro W1 hw'
  obtain ⟨⟨W_, hb1⟩, hw''⟩ := hw'
  subst hw''
  have B1 := B.below hb1
  have hbw := Bel.trans hbw hb1
  have HA1 := Lib.hid (HA.out.below hbw)
  have c0 : W1.cell? ⟨w.heap.size, 0, none⟩ = some (.string x.Id) := B1.cell 0
  have c1 : W1.cell? ⟨w.heap.size, 1, none⟩ = some (.int .i64 x.Shut) := B1.cell 1
  have c2 : W1.cell? ⟨w.heap.size, 2, none⟩ = some (.int .i64 x.Open) := B1.cell 2
  have c3 : W1.cell? ⟨w.heap.size, 3, none⟩ = some (.int .i64 x.Hold) := B1.cell 3
  have c4 : W1.cell? ⟨w.heap.size, 4, none⟩ = some (.bool x.Shuts) := B1.cell 4
  have c5 : W1.cell? ⟨w.heap.size, 5, none⟩ = some (.int .i64 x.Calm) := B1.cell 5
  have z0 : W1.frozen? ⟨w.heap.size, 0, none⟩ = false := B1.free 0
  have z1 : W1.frozen? ⟨w.heap.size, 1, none⟩ = false := B1.free 1
  have z2 : W1.frozen? ⟨w.heap.size, 2, none⟩ = false := B1.free 2
  have z3 : W1.frozen? ⟨w.heap.size, 3, none⟩ = false := B1.free 3
  have z4 : W1.frozen? ⟨w.heap.size, 4, none⟩ = false := B1.free 4
  have z5 : W1.frozen? ⟨w.heap.size, 5, none⟩ = false := B1.free 5
  clear B B1 p0 p1 p2 p3 p4 p5 hb1 HA z0 z1 z2 z3 z4 z5
  go_wp2_with fail
  refine (HRA.out _ HA1.out hn hx).mono ?_
  rintro e w2 ⟨⟨v, rfl, R⟩, hb2⟩
  obtain ⟨D, d, rfl, hS⟩ := R.form (fun _ => rfl)
  have hbw := Bel.trans hbw hb2
  have HS := Lib.hid hS
  clear R hS HA1 c0 c1 c2 c3 c4 c5
  go_wp2_with fail
  go_loopw [6, 7, 8, 17] (fun h t p i wr => ∃ (k : Nat) (hh tt : Int) (pp : Bool), k ≤ L.length ∧ i = .int .i64 k ∧ h = .int .i64 hh ∧ t = .int .i64 tt ∧ p = .bool pp ∧ shTo x.Shuts L k = (hh, tt, pp) ∧ Below w2.heap.size w2 wr) (fun _ _ _ i wr => L.length - (intOf i).toNat)
  case atStart => exact ⟨0, 0, 0, x.Shuts, by omega, rfl, rfl, rfl, rfl, rfl, Below.refl _ _⟩
  case round =>
    obtain ⟨k, hh, tt, pp, hk, rfl, rfl, rfl, rfl, hsh, hbel⟩ := hrel
    have hbd := sh_bd x.Shuts L k
    rw [hsh] at hbd
    dsimp only at hbd
    by_cases hlt : k < L.length
    · obtain ⟨g, o, rfl, hc⟩ := HS.out (by omega)
      have c0 := argB (hc.below hbel hc.1) hlt
      cases hq : L[k]
      · have hn := sh_no hlt hsh hq
        rw [hq] at c0
        have HN := Lib.hid hn
        clear hn hq hsh hc HS
        go_wp2
        go_roundw
        case rel => exact ⟨k + 1, _, _, _, by omega, by go_num, rfl, rfl, rfl, HN.out, hbel⟩
        case measure => simp [intOf]; omega
      · rw [hq] at c0
        cases pp
        · have hn := sh_new hlt hsh hq
          have HN := Lib.hid hn
          clear hn hq hsh hc HS
          go_wp2
          go_roundw
          case rel => exact ⟨k + 1, _, _, _, by omega, by go_num, rfl, rfl, rfl, HN.out, hbel⟩
          case measure => simp [intOf]; omega
        · have hn := sh_yes hlt hsh hq
          have HN := Lib.hid hn
          clear hn hq hsh hc HS
          go_wp2
          go_roundw
          case rel => exact ⟨k + 1, _, _, _, by omega, by go_num, rfl, rfl, rfl, HN.out, hbel⟩
          case measure => simp [intOf]; omega
    · have hke : k = hs.length := by omega
      have hex : decide ((k : Int) < (L.length : Int)) = false := decide_eq_false (by omega)
      rw [hke] at hsh
      have HSH := Lib.hid hsh
      have hbt := Bel.trans hbw hbel
      clear hsh hke HS
      go_wp2
      go_ret2
      rw [HLD.out, HSH.out]
      exact ⟨rfl, hbt⟩
theorem l21Times_any (x : SGate) (hs : List Int) (b c : Nat) (w : World) (A : Arr intc 1 w b hs) (hn : hs.length ≤ 1048576) (hx : bdGate x) :
    Calls Try.prog 69 #[.agg #[.string x.Id, .int .i64 x.Shut, .int .i64 x.Open, .int .i64 x.Hold, .bool x.Shuts, .int .i64 x.Calm], .slice (some ⟨b, 0, none⟩) hs.length c] w fun e w' => e = .returned (.tuple #[.int .i64 (shTo x.Shuts (runL x hs hs.length) hs.length).1, .int .i64 (shTo x.Shuts (runL x hs hs.length) hs.length).2.1]) ∧ Below w.heap.size w w' := by
  have HA := Lib.hid A
  clear A
  have hra := l21Run_any x hs b c
  have hL := runL_len x hs hs.length
  obtain ⟨L, hLd⟩ : ∃ L, runL x hs hs.length = L := ⟨_, rfl⟩
  rw [hLd] at hL hra
  have HLD := Lib.hid hLd
  have HRA := Lib.hid hra
  clear hLd hra
  go_enter Try.func69, Try.ntmps69
  go_wp2_with fail
  refine calls_box_out ?_
  intro W hbw B
  refine (HRA.out _ (HA.out.below hbw) hn hx).mono ?_
  rintro e w2 ⟨⟨v, rfl, R⟩, hb2⟩
  obtain ⟨D, d, rfl, hS⟩ := R.form (fun _ => rfl)
  have hbw := Bel.trans hbw hb2
  have B1 := B.below hb2
  have HS := Lib.hid hS
  have c0 : w2.cell? ⟨w.heap.size, 0, none⟩ = some (.string x.Id) := B1.cell 0
  have c1 : w2.cell? ⟨w.heap.size, 1, none⟩ = some (.int .i64 x.Shut) := B1.cell 1
  have c2 : w2.cell? ⟨w.heap.size, 2, none⟩ = some (.int .i64 x.Open) := B1.cell 2
  have c3 : w2.cell? ⟨w.heap.size, 3, none⟩ = some (.int .i64 x.Hold) := B1.cell 3
  have c4 : w2.cell? ⟨w.heap.size, 4, none⟩ = some (.bool x.Shuts) := B1.cell 4
  have c5 : w2.cell? ⟨w.heap.size, 5, none⟩ = some (.int .i64 x.Calm) := B1.cell 5
  have z0 : w2.frozen? ⟨w.heap.size, 0, none⟩ = false := B1.free 0
  have z1 : w2.frozen? ⟨w.heap.size, 1, none⟩ = false := B1.free 1
  have z2 : w2.frozen? ⟨w.heap.size, 2, none⟩ = false := B1.free 2
  have z3 : w2.frozen? ⟨w.heap.size, 3, none⟩ = false := B1.free 3
  have z4 : w2.frozen? ⟨w.heap.size, 4, none⟩ = false := B1.free 4
  have z5 : w2.frozen? ⟨w.heap.size, 5, none⟩ = false := B1.free 5
  clear R hS HA B B1 hb2 z0 z1 z2 z3 z4 z5
  go_wp2_with fail
  clear c0 c1 c2 c3 c4 c5
  go_loopw [7, 8, 9, 10] (fun p h t i wr => ∃ (k : Nat) (hh tt : Int) (pp : Bool), k ≤ L.length ∧ i = .int .i64 k ∧ h = .int .i64 hh ∧ t = .int .i64 tt ∧ p = .bool pp ∧ shTo x.Shuts L k = (hh, tt, pp) ∧ Below w2.heap.size w2 wr) (fun _ _ _ i wr => L.length - (intOf i).toNat)
  case atStart => exact ⟨0, 0, 0, x.Shuts, by omega, rfl, rfl, rfl, rfl, rfl, Below.refl _ _⟩
  case round =>
    obtain ⟨k, hh, tt, pp, hk, rfl, rfl, rfl, rfl, hsh, hbel⟩ := hrel
    have hbd := sh_bd x.Shuts L k
    rw [hsh] at hbd
    dsimp only at hbd
    by_cases hlt : k < L.length
    · obtain ⟨g, o, rfl, hc⟩ := HS.out (by omega)
      have c0 := argB (hc.below hbel hc.1) hlt
      cases hq : L[k]
      · have hn := sh_no hlt hsh hq
        rw [hq] at c0
        have HN := Lib.hid hn
        clear hn hq hsh hc HS
        go_wp2
        go_roundw
        case rel => exact ⟨k + 1, _, _, _, by omega, by go_num, rfl, rfl, rfl, HN.out, hbel⟩
        case measure => simp [intOf]; omega
      · rw [hq] at c0
        cases pp
        · have hn := sh_new hlt hsh hq
          have HN := Lib.hid hn
          clear hn hq hsh hc HS
          go_wp2
          go_roundw
          case rel => exact ⟨k + 1, _, _, _, by omega, by go_num, rfl, rfl, rfl, HN.out, hbel⟩
          case measure => simp [intOf]; omega
        · have hn := sh_yes hlt hsh hq
          have HN := Lib.hid hn
          clear hn hq hsh hc HS
          go_wp2
          go_roundw
          case rel => exact ⟨k + 1, _, _, _, by omega, by go_num, rfl, rfl, rfl, HN.out, hbel⟩
          case measure => simp [intOf]; omega
    · have hke : k = hs.length := by omega
      have hex : decide ((k : Int) < (L.length : Int)) = false := decide_eq_false (by omega)
      rw [hke] at hsh
      have HSH := Lib.hid hsh
      have hbt := Bel.trans hbw hbel
      clear hsh hke HS
      go_wp2
      go_ret2
      rw [HLD.out, HSH.out]
      exact ⟨rfl, hbt⟩
end Go.Proofs.Ytinijfdopkohfaa
