/- Chapter 21: in which hours a gate is shut: the walks. -/
import Derived.Test.YtinijfdopkohfaaL21c
import Derived.Test.YtinijfdopkohfaaRowBo
namespace Go.Proofs.Ytinijfdopkohfaa
set_option linter.unusedSimpArgs false
set_option linter.unusedVariables false
open Go.RowKit
set_option maxHeartbeats 400000
set_option maxRecDepth 100000
theorem runGate_any (x : SGate) (hs : List Int) (b c : Nat) (w : World) (A : Arr intc 1 w b hs) (hn : hs.length ≤ 1048576) (hx : bdGate x) :
    Calls Try.prog 66 #[.agg #[.string x.Id, .int .i64 x.Shut, .int .i64 x.Open, .int .i64 x.Hold, .bool x.Shuts, .int .i64 x.Calm], .slice (some ⟨b, 0, none⟩) hs.length c] w fun e w' => (∃ v, e = .returned v ∧ Row boolc 1 4 w' w.heap.size v (runL x hs hs.length)) ∧ Below w.heap.size w w' := by
  have HA := Lib.hid A
  clear A
  have hmk := mk_slice (P := Try.prog) 63 4 (.bool false) 1 1 (by kernel_rfl) (by kernel_rfl) (by omega) hs.length hn
  have hL := runL_len x hs hs.length
  obtain ⟨L, hLd⟩ : ∃ L, runL x hs hs.length = L := ⟨_, rfl⟩
  rw [hLd] at hL
  have HLD := Lib.hid hLd
  have HL := Lib.hid hL
  go_enter Try.func66, Try.ntmps66
  go_wp2_with fail
  go_loopw [13] (fun i wr => ∃ k : Nat, k ≤ hs.length ∧ i = .int .i64 k ∧ Box 46 wr w.heap.size #[.string (gateAt x hs k).Id, .int .i64 (gateAt x hs k).Shut, .int .i64 (gateAt x hs k).Open, .int .i64 (gateAt x hs k).Hold, .bool (gateAt x hs k).Shuts, .int .i64 (gateAt x hs k).Calm] ∧ Part boolc 1 4 wr (w.heap.size + 1) L k ∧ Below w.heap.size w wr) (fun i wr => hs.length - (intOf i).toNat)
  case atStart =>
    have hp := Part.made (cs := boolc) (sz := 1) (t := 4) (Value.bool false).cells (w.alloc (.cells #[.string x.Id, .int .i64 x.Shut, .int .i64 x.Open, .int .i64 x.Hold, .bool x.Shuts, .int .i64 x.Calm] 46)) L
    rw [Nat.mul_one, HL.out] at hp
    have hp2 : (w.alloc (.cells #[.string x.Id, .int .i64 x.Shut, .int .i64 x.Open, .int .i64 x.Hold, .bool x.Shuts, .int .i64 x.Calm] 46)).heap.size = w.heap.size + 1 := by simp
    rw [hp2] at hp
    exact ⟨0, by omega, rfl, (Box.new _ _ _).alloc _, hp, Bel.alloc (Bel.alloc (Below.refl _ _) _) _⟩
  case round =>
    obtain ⟨k, hk, rfl, B, hpart, hbel⟩ := hrel
    by_cases hlt : k < hs.length
    · have h0 : wr.cell? ⟨b, k, none⟩ = some (.int .i64 hs[k]) := (HA.out.below hbel).get hlt 0 k rfl (by omega)
      obtain ⟨u0_, r0, s0⟩ := hpart.room (i := k) (by rw [HL.out]; omega)
      have hbd := gateAt_bd hs hx k
      obtain ⟨g, hg⟩ : ∃ g, gateAt x hs k = g := ⟨_, rfl⟩
      obtain ⟨g', hg'⟩ : ∃ g', stepG g hs[k] = g' := ⟨_, rfl⟩
      have hst := stepGate_any g hs[k]
      have hgs := gateAt_step hlt hg
      have hLk : L[k]'(by rw [HL.out]; exact hlt) = g'.Shuts := by
        simp only [← HLD.out]
        rw [runL_at, hgs, hg']
      rw [hg'] at hgs hst
      rw [hg] at B hbd
      have HST := Lib.hid hst
      have HGS := Lib.hid hgs
      have HLK := Lib.hid hLk
      have c0 : wr.cell? ⟨w.heap.size, 0, none⟩ = some (.string g.Id) := B.cell 0
      have c1 : wr.cell? ⟨w.heap.size, 1, none⟩ = some (.int .i64 g.Shut) := B.cell 1
      have c2 : wr.cell? ⟨w.heap.size, 2, none⟩ = some (.int .i64 g.Open) := B.cell 2
      have c3 : wr.cell? ⟨w.heap.size, 3, none⟩ = some (.int .i64 g.Hold) := B.cell 3
      have c4 : wr.cell? ⟨w.heap.size, 4, none⟩ = some (.bool g.Shuts) := B.cell 4
      have c5 : wr.cell? ⟨w.heap.size, 5, none⟩ = some (.int .i64 g.Calm) := B.cell 5
      have z0 : wr.frozen? ⟨w.heap.size, 0, none⟩ = false := B.free 0
      have z1 : wr.frozen? ⟨w.heap.size, 1, none⟩ = false := B.free 1
      have z2 : wr.frozen? ⟨w.heap.size, 2, none⟩ = false := B.free 2
      have z3 : wr.frozen? ⟨w.heap.size, 3, none⟩ = false := B.free 3
      have z4 : wr.frozen? ⟨w.heap.size, 4, none⟩ = false := B.free 4
      have z5 : wr.frozen? ⟨w.heap.size, 5, none⟩ = false := B.free 5
      clear z0 z1 z2 z3 z4 z5 hst hgs hLk hg hg'
      have HB := Lib.hid B
      have HP := Lib.hid hpart
      have hpl := hpart.lt
      clear B hpart
      go_wp2_with fail
      refine (HST.out _ hbd).mono ?_
      rintro e w2 ⟨rfl, hb2⟩
      have B1 := HB.out.below hb2
      have P1 := HP.out.upto hb2 hpl
      have hbt := Bel.trans hbel hb2
      clear HB HP c0 c1 c2 c3 c4 c5 r0 s0 h0
      obtain ⟨u1_, r0, s0⟩ := P1.room (i := k) (by rw [HL.out]; omega)
      have c0 : w2.cell? ⟨w.heap.size, 0, none⟩ = some (.string g.Id) := B1.cell 0
      have c1 : w2.cell? ⟨w.heap.size, 1, none⟩ = some (.int .i64 g.Shut) := B1.cell 1
      have c2 : w2.cell? ⟨w.heap.size, 2, none⟩ = some (.int .i64 g.Open) := B1.cell 2
      have c3 : w2.cell? ⟨w.heap.size, 3, none⟩ = some (.int .i64 g.Hold) := B1.cell 3
      have c4 : w2.cell? ⟨w.heap.size, 4, none⟩ = some (.bool g.Shuts) := B1.cell 4
      have c5 : w2.cell? ⟨w.heap.size, 5, none⟩ = some (.int .i64 g.Calm) := B1.cell 5
      have z0 : w2.frozen? ⟨w.heap.size, 0, none⟩ = false := B1.free 0
      have z1 : w2.frozen? ⟨w.heap.size, 1, none⟩ = false := B1.free 1
      have z2 : w2.frozen? ⟨w.heap.size, 2, none⟩ = false := B1.free 2
      have z3 : w2.frozen? ⟨w.heap.size, 3, none⟩ = false := B1.free 3
      have z4 : w2.frozen? ⟨w.heap.size, 4, none⟩ = false := B1.free 4
      have z5 : w2.frozen? ⟨w.heap.size, 5, none⟩ = false := B1.free 5
      have HB1 := Lib.hid B1
      have HP1 := Lib.hid P1
      clear B1 P1
      go_wp2
      go_roundw
      case rel =>
        refine ⟨k + 1, by omega, by go_num, ?_, ?_, ?_⟩
        · rw [HGS.out]
          exact (HB1.out.setAll (SGate.cells g') rfl).far (Nat.ne_of_lt (Nat.lt_succ_self _)) _
        · have h1 := (HP1.out.far (setAll_far (g := w.heap.size) (g' := w.heap.size + 1) (w := w) (Nat.succ_ne_self _) (SGate.cells g') 0 w2)).step (by rw [HL.out]; exact hlt) (fun _ => rfl)
          rw [Nat.mul_one, HLK.out] at h1
          exact h1
        · exact Bel.setCell (Bel.setAll (Nat.le_refl _) (SGate.cells g') 0 hbt) (by simp) _
      case measure => simp [intOf]; omega
    · obtain rfl : k = hs.length := by omega
      have HP := Lib.hid hpart
      clear hpart B
      go_wp2
      go_ret
      have hr := rowB_of (HP.out.own (by rw [HL.out]; exact Nat.le_refl _)) (Nat.le_succ _) (by rw [HL.out]; exact hn)
      rw [HL.out] at hr
      rw [HLD.out]
      exact ⟨⟨_, rfl, hr⟩, hbel⟩
theorem l21Run_any (x : SGate) (hs : List Int) (b c : Nat) (w : World) (A : Arr intc 1 w b hs) (hn : hs.length ≤ 1048576) (hx : bdGate x) :
    Calls Try.prog 63 #[.agg #[.string x.Id, .int .i64 x.Shut, .int .i64 x.Open, .int .i64 x.Hold, .bool x.Shuts, .int .i64 x.Calm], .slice (some ⟨b, 0, none⟩) hs.length c] w fun e w' => (∃ v, e = .returned v ∧ Row boolc 1 4 w' w.heap.size v (runL x hs hs.length)) ∧ Below w.heap.size w w' := by
  have HA := Lib.hid A
  clear A
  go_enter Try.func63, Try.ntmps63
  go_wp2_with fail
  go_loopw [5, 6] (fun v i wr => ∃ k : Nat, k ≤ hs.length ∧ i = .int .i64 k ∧ Box 46 wr w.heap.size #[.string (gateAt x hs k).Id, .int .i64 (gateAt x hs k).Shut, .int .i64 (gateAt x hs k).Open, .int .i64 (gateAt x hs k).Hold, .bool (gateAt x hs k).Shuts, .int .i64 (gateAt x hs k).Calm] ∧ Row boolc 1 4 wr (w.heap.size + 1) v (runL x hs k) ∧ Below w.heap.size w wr) (fun _ i wr => hs.length - (intOf i).toNat)
  case atStart =>
    have hr := Row.empty (cs := boolc) (sz := 1) (t := 4) (w0 := w.alloc (.cells #[.string x.Id, .int .i64 x.Shut, .int .i64 x.Open, .int .i64 x.Hold, .bool x.Shuts, .int .i64 x.Calm] 46)) (B := w.heap.size + 1) (by simp)
    have hp2 : (w.alloc (.cells #[.string x.Id, .int .i64 x.Shut, .int .i64 x.Open, .int .i64 x.Hold, .bool x.Shuts, .int .i64 x.Calm] 46)).heap.size = w.heap.size + 1 := by simp
    rw [hp2] at hr
    exact ⟨0, by omega, rfl, (Box.new _ _ _).alloc _, hr, Bel.alloc (Bel.alloc (Below.refl _ _) _) _⟩
  case round =>
    obtain ⟨k, hk, rfl, B, hrow, hbel⟩ := hrel
    have HR := Lib.hid hrow
    clear hrow
    by_cases hlt : k < hs.length
    · have hA1 := HA.out.below hbel
      have h0 : wr.cell? ⟨b, k, none⟩ = some (.int .i64 hs[k]) := hA1.get hlt 0 k rfl (by omega)
      have q0 := Past.cell h0 hA1.1
      have hbd := gateAt_bd hs hx k
      obtain ⟨g, hg⟩ : ∃ g, gateAt x hs k = g := ⟨_, rfl⟩
      obtain ⟨g', hg'⟩ : ∃ g', stepG g hs[k] = g' := ⟨_, rfl⟩
      have hst := l21Step_any g hs[k]
      have hgs := gateAt_step hlt hg
      have hrs := runL_snoc x hs k
      rw [hgs, hg'] at hrs
      rw [hg'] at hgs hst
      rw [hg] at B hbd
      have hlen := runL_len x hs k
      have HST := Lib.hid hst
      have HGS := Lib.hid hgs
      have HRS := Lib.hid hrs
      have p0 := Past.box B (j := 0) (v := .string g.Id) rfl
      have p1 := Past.box B (j := 1) (v := .int .i64 g.Shut) rfl
      have p2 := Past.box B (j := 2) (v := .int .i64 g.Open) rfl
      have p3 := Past.box B (j := 3) (v := .int .i64 g.Hold) rfl
      have p4 := Past.box B (j := 4) (v := .bool g.Shuts) rfl
      have p5 := Past.box B (j := 5) (v := .int .i64 g.Calm) rfl
      have HB := Lib.hid B
      clear hst hgs hrs hg hg' B h0 hA1
      go_wp2_with fail
      refine wp_region_past_tail 6 (by kernel_rfl) (by kernel_rfl) ?_
      simp only [List.take_succ_cons, List.take_zero, List.drop_succ_cons, List.drop_zero]
      repeat (go_big_quiet_step ((go_at_call 81; exact Past.call _ (HST.out _ hbd))))
      refine wpQuiet_nil ?_
      intro W1 hw'
      obtain ⟨⟨W_, hb1⟩, hw''⟩ := hw'
      subst hw''
      have B1 := HB.out.below hb1
      have R1 := Lib.hid (HR.out.below hb1)
      have hbt := Bel.trans hbel hb1
      have hsz := hbt.size
      have hgt := B1.lt
      clear HB HR p0 p1 p2 p3 p4 p5 q0 hb1
      have c0 : W1.cell? ⟨w.heap.size, 0, none⟩ = some (.string g.Id) := B1.cell 0
      have c1 : W1.cell? ⟨w.heap.size, 1, none⟩ = some (.int .i64 g.Shut) := B1.cell 1
      have c2 : W1.cell? ⟨w.heap.size, 2, none⟩ = some (.int .i64 g.Open) := B1.cell 2
      have c3 : W1.cell? ⟨w.heap.size, 3, none⟩ = some (.int .i64 g.Hold) := B1.cell 3
      have c4 : W1.cell? ⟨w.heap.size, 4, none⟩ = some (.bool g.Shuts) := B1.cell 4
      have c5 : W1.cell? ⟨w.heap.size, 5, none⟩ = some (.int .i64 g.Calm) := B1.cell 5
      have z0 : W1.frozen? ⟨w.heap.size, 0, none⟩ = false := B1.free 0
      have z1 : W1.frozen? ⟨w.heap.size, 1, none⟩ = false := B1.free 1
      have z2 : W1.frozen? ⟨w.heap.size, 2, none⟩ = false := B1.free 2
      have z3 : W1.frozen? ⟨w.heap.size, 3, none⟩ = false := B1.free 3
      have z4 : W1.frozen? ⟨w.heap.size, 4, none⟩ = false := B1.free 4
      have z5 : W1.frozen? ⟨w.heap.size, 5, none⟩ = false := B1.free 5
      have HB1 := Lib.hid B1
      clear B1
      have HBn := Lib.hid (show Box 46 ((((((W1.setCell ⟨w.heap.size, 0, none⟩ (.string g'.Id)).setCell ⟨w.heap.size, 1, none⟩ (.int .i64 g'.Shut)).setCell ⟨w.heap.size, 2, none⟩ (.int .i64 g'.Open)).setCell ⟨w.heap.size, 3, none⟩ (.int .i64 g'.Hold)).setCell ⟨w.heap.size, 4, none⟩ (.bool g'.Shuts)).setCell ⟨w.heap.size, 5, none⟩ (.int .i64 g'.Calm)) w.heap.size #[.string g'.Id, .int .i64 g'.Shut, .int .i64 g'.Open, .int .i64 g'.Hold, .bool g'.Shuts, .int .i64 g'.Calm] from HB1.out.setAll (SGate.cells g') rfl)
      have HRn := Lib.hid (show Row boolc 1 4 ((((((W1.setCell ⟨w.heap.size, 0, none⟩ (.string g'.Id)).setCell ⟨w.heap.size, 1, none⟩ (.int .i64 g'.Shut)).setCell ⟨w.heap.size, 2, none⟩ (.int .i64 g'.Open)).setCell ⟨w.heap.size, 3, none⟩ (.int .i64 g'.Hold)).setCell ⟨w.heap.size, 4, none⟩ (.bool g'.Shuts)).setCell ⟨w.heap.size, 5, none⟩ (.int .i64 g'.Calm)) (w.heap.size + 1) u5 (runL x hs k) from R1.out.of_same fun y hy => setAll_far (g := w.heap.size) (g' := y) (w := w) (by have := R1.out.own_ge hy; omega) (SGate.cells g') 0 W1)
      have HEn := Lib.hid (show Below w.heap.size w ((((((W1.setCell ⟨w.heap.size, 0, none⟩ (.string g'.Id)).setCell ⟨w.heap.size, 1, none⟩ (.int .i64 g'.Shut)).setCell ⟨w.heap.size, 2, none⟩ (.int .i64 g'.Open)).setCell ⟨w.heap.size, 3, none⟩ (.int .i64 g'.Hold)).setCell ⟨w.heap.size, 4, none⟩ (.bool g'.Shuts)).setCell ⟨w.heap.size, 5, none⟩ (.int .i64 g'.Calm)) from Bel.setAll (Nat.le_refl _) (SGate.cells g') 0 hbt)
      have HZn := Lib.hid (show W1.heap.size = (((((((W1.setCell ⟨w.heap.size, 0, none⟩ (.string g'.Id)).setCell ⟨w.heap.size, 1, none⟩ (.int .i64 g'.Shut)).setCell ⟨w.heap.size, 2, none⟩ (.int .i64 g'.Open)).setCell ⟨w.heap.size, 3, none⟩ (.int .i64 g'.Hold)).setCell ⟨w.heap.size, 4, none⟩ (.bool g'.Shuts)).setCell ⟨w.heap.size, 5, none⟩ (.int .i64 g'.Calm))).heap.size by simp)
      clear R1 HB1
      go_wp2_with (at_builtin; generalize ((((((W1.setCell ⟨w.heap.size, 0, none⟩ (.string g'.Id)).setCell ⟨w.heap.size, 1, none⟩ (.int .i64 g'.Shut)).setCell ⟨w.heap.size, 2, none⟩ (.int .i64 g'.Open)).setCell ⟨w.heap.size, 3, none⟩ (.int .i64 g'.Hold)).setCell ⟨w.heap.size, 4, none⟩ (.bool g'.Shuts)).setCell ⟨w.heap.size, 5, none⟩ (.int .i64 g'.Calm)) = W2 at HBn HRn HEn HZn ⊢; refine wpList_pushB rfl _ _ 63 rfl (w.heap.size + 1) 4 Try.underlying63 (by kernel_rfl) u5 (runL x hs k) g'.Shuts rfl HRn.out 1 (by show Value.slice (some ⟨_, 0, none⟩) 1 1 = _; rw [HZn.out]) (by omega) (by rw [← HZn.out]; omega) ?_; intro v' w3 hr3 hg3 hb4)
      go_roundw
      case rel =>
        refine ⟨k + 1, by omega, by go_num, ?_, ?_, ?_⟩
        · rw [HGS.out]
          exact HBn.out.upto hb4 (Nat.lt_succ_self _)
        · rw [HRS.out]; exact hr3
        · exact HEn.out.trans (hb4.mono (Nat.le_succ _))
      case measure => simp [intOf]; omega
    · obtain rfl : k = hs.length := by omega
      clear B
      go_wp2
      go_ret
      exact ⟨⟨_, rfl, HR.out.lower (Nat.le_succ _)⟩, hbel⟩
end Go.Proofs.Ytinijfdopkohfaa
