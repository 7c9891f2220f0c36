/- Chapter 20: one element is added (weakly: some row comes back). No condition. -/
import Derived.Test.YtcjalooaikfkbaaRowM
import Derived.Deep.CutRange
import Derived.Test.YtcjalooaikfkbaaL20
namespace Go.Proofs.Ytcjalooaikfkbaa
set_option linter.unusedSimpArgs false
set_option linter.unusedVariables false
open Go.RowKit
set_option maxHeartbeats 800000
set_option maxRecDepth 100000
theorem wpList_pushVerifiedR {P : Program} {ops : Array Oper} {rest : List Oper} {o : Oper} {a : Act} {Q : Exit → Act → World → Prop} {w : World} (hgd : o.guard = none) (s x : Operand) (t : TypeId)
    (ho : o.op = .call { callee := .builtin .append, args := #[s, x], argTypes := #[t, t] }) (base : Nat) (e : TypeId) (ht : P.underlying t = some (.slice e))
    (hi : (P.info? e).map (fun i => (i.zero, i.size, i.bytes)) = some (some (.agg #[.int .i64 0, .int .i64 0, .int .i64 0]), 3, 24))
    (v : Value) (ys : List SVerified) (y : SVerified) (hs : a.eval s = v) (R : Row SVerified.cells 3 e w base v ys) (c : Nat) (hx : a.eval x = .slice (some ⟨w.heap.size, 0, none⟩) 1 c) (hn : ys.length ≤ 1048577) (hbase : base ≤ w.heap.size)
    (h : ∀ v' w', Row SVerified.cells 3 e w' base v' (ys ++ [y]) → Below base w w' → wpList P ops Q rest (a.put o.dst v') w') :
    wpList P ops Q (o :: rest) a (w.alloc (.cells #[.int .i64 y.Day, .int .i64 y.Told, .int .i64 y.Seen] e)) := by
  refine wpList_push hgd s x t ho base e (.agg #[.int .i64 0, .int .i64 0, .int .i64 0]) 3 24 ht hi rfl (by decide) (by decide) SVerified.cells v ys y hs (R.alloc _) w.heap.size c hx rfl (fun j u hu => ?_) (fun u hu => ?_) hn (by simp; omega) fun v' w' hr hg hb => h v' w' hr ?_
  · rw [(Box.new w e #[.int .i64 y.Day, .int .i64 y.Told, .int .i64 y.Seen]).cell j]; simpa [SVerified.cells] using hu
  · simp only [SVerified.cells, List.mem_cons, List.not_mem_nil, or_false] at hu
    rcases hu with rfl | rfl | rfl <;> rfl
  · exact ((Below.refl base w).alloc hbase _).trans hb
theorem oneVerified (y : SVerified) : ∀ u ∈ SVerified.cells y, u.oneCell' = true := by
  intro u hu
  simp only [SVerified.cells, List.mem_cons, List.not_mem_nil, or_false] at hu
  rcases hu with rfl | rfl | rfl <;> rfl
theorem addVerified_any (xs : List SVerified) (b c : Nat) (x : SVerified) (w : World) (A : Arr SVerified.cells 3 w b xs) (hc : xs.length ≤ c) (hn : xs.length ≤ 1000) :
    Calls Try.prog 90 #[.slice (some ⟨b, 0, none⟩) xs.length c, .agg #[.int .i64 x.Day, .int .i64 x.Told, .int .i64 x.Seen]] w fun e w' => (∃ (ys : List SVerified) (v : Value) (q : Int), e = .returned (.tuple #[v, .int .i64 q]) ∧ (q = 0 → ys.length ≤ xs.length + 1 ∧ Row SVerified.cells 3 55 w' w.heap.size v ys ∧ v.ownBlock ≠ none)) ∧ Below w.heap.size w w' := by
  have HA := Lib.hid A
  have hbl := A.1
  clear A
  go_enter Try.func90, Try.ntmps90
  go_wp2_with fail
  refine calls_box_out ?_
  intro W0 hbw B1
  refine (l20Ok_any xs b c _ (HA.out.below hbw) (by omega)).mono ?_
  rintro e W ⟨rfl, hbo⟩
  have B1 := B1.below hbo
  have hbw := Bel.trans hbw hbo
  clear hbo
  cases hv : vlVerified xs
  · go_wp2
    go_ret2
    exact ⟨⟨[], _, _, rfl, fun h => absurd h (by decide)⟩, hbw⟩
  have HB1 := Lib.hid B1
  have c0 : W.cell? ⟨w.heap.size, 0, none⟩ = some (.int .i64 x.Day) := B1.cell 0
  have c1 : W.cell? ⟨w.heap.size, 1, none⟩ = some (.int .i64 x.Told) := B1.cell 1
  have c2 : W.cell? ⟨w.heap.size, 2, none⟩ = some (.int .i64 x.Seen) := B1.cell 2
  have z0 : W.frozen? ⟨w.heap.size, 0, none⟩ = false := B1.free 0
  have z1 : W.frozen? ⟨w.heap.size, 1, none⟩ = false := B1.free 1
  have z2 : W.frozen? ⟨w.heap.size, 2, none⟩ = false := B1.free 2
  clear B1
  go_wp2_with fail
  refine (l20One_any x w.heap.size 0 W c0 c1 c2).mono ?_
  rintro e w' ⟨rfl, rfl⟩
  clear c0 c1 c2 z0 z1 z2
  cases hx : okVerified x
  · go_wp2
    go_ret2
    exact ⟨⟨[], _, _, rfl, fun h => absurd h (by decide)⟩, hbw⟩
  clear hv hx
  have hsW : w.heap.size < W.heap.size := HB1.out.lt
  go_wp2_with fail
  go_loopw [6] (fun i wr => ∃ k : Nat, k ≤ xs.length ∧ i = .int .i64 k ∧ Below W.heap.size W wr) (fun i wr => xs.length - (intOf i).toNat)
  case atStart => exact ⟨0, by omega, rfl, Below.refl _ _⟩
  case round =>
    obtain ⟨k, hk, rfl, hb2⟩ := hrel
    have HB := Lib.hid (HB1.out.below hb2)
    have HA := Lib.hid ((HA.out.below hbw).below hb2)
    have hbel := Bel.trans hbw hb2
    clear HB1
    have B1 := HB.out
    have p0 := Past.box B1 (j := 0) (v := .int .i64 x.Day) rfl
    have p1 := Past.box B1 (j := 1) (v := .int .i64 x.Told) rfl
    have p2 := Past.box B1 (j := 2) (v := .int .i64 x.Seen) rfl
    clear B1
    by_cases hlt : k < xs.length
    · obtain ⟨e0, e1, e2⟩ := SVerified.elems HA.out hlt
      by_cases hq : xs[k].Day < x.Day
      · go_wp2_with fail
        refine wp_region_past (by kernel_rfl) (by kernel_rfl) ?_
        repeat (go_big_quiet_step (fail))
        refine wpQuiet_nil ?_
        intro W1 hw'
        obtain ⟨⟨W_, hb3⟩, hw''⟩ := hw'
        subst hw''
        clear e0 e1 e2 p0 p1 p2
        go_wp2
        go_roundw
        case rel => exact ⟨k + 1, by omega, by go_num, Bel.trans hb2 hb3⟩
        case measure => simp [intOf]; omega
      · have hszW := hb2.size
        clear hb2 hbw
        go_wp2_with fail
        refine wp_region_past (by kernel_rfl) (by kernel_rfl) ?_
        repeat (go_big_quiet_step (fail))
        refine wpQuiet_nil ?_
        intro W1 hw'
        obtain ⟨⟨W_, hb3⟩, hw''⟩ := hw'
        subst hw''
        have HA := Lib.hid (HA.out.below hb3)
        have HB := Lib.hid (HB.out.below hb3)
        have hbel := Bel.trans hbel hb3
        have hszW1 := hb3.size
        clear hb3 e0 e1 e2 p0 p1 p2
        have B1 := HB.out
        have p0 := Past.box B1 (j := 0) (v := .int .i64 x.Day) rfl
        have p1 := Past.box B1 (j := 1) (v := .int .i64 x.Told) rfl
        have p2 := Past.box B1 (j := 2) (v := .int .i64 x.Seen) rfl
        clear B1
        obtain ⟨e0, e1, e2⟩ := SVerified.elems HA.out hlt
        cases he : xs[k].Day == x.Day
        · go_wp2_with fail
          refine wp_region_past (by kernel_rfl) (by kernel_rfl) ?_
          repeat (go_big_quiet_step (fail))
          refine wpQuiet_nil ?_
          intro W2 hw'
          obtain ⟨⟨W_, hb3⟩, hw''⟩ := hw'
          subst hw''
          have HA := Lib.hid (HA.out.below hb3)
          have HB := Lib.hid (HB.out.below hb3)
          have hbel := Bel.trans hbel hb3
          have hszW2 := hb3.size
          clear hb3 e0 e1 e2 p0 p1 p2 he hq
          cases hm : (xs.length : Int) == 64
          · have hkc : (k : Int) ≤ (c : Int) := by omega
            have hkl : (k : Int) ≤ (xs.length : Int) := by omega
            have hsz : W.heap.size ≤ W2.heap.size := by omega
            go_upto_region 13 with (at_builtin; refine wpList_pushN rfl _ _ 44 rfl W.heap.size 55 (.agg #[.int .i64 0, .int .i64 0, .int .i64 0]) 3 24 Try.underlying44 (by kernel_rfl) rfl (by decide) (by decide) SVerified.cells (.slice (some ⟨W2.heap.size, 0, none⟩) 0 0) [] (xs.take k) rfl (Row.empty hsz) b 0 c k (by rw [List.length_take]; omega) rfl (fun _ => rfl) (takeC (HA.out.below (Bel.alloc (Below.refl _ _) _)) k) oneVerified (by rw [List.length_take]; simp; omega) (by simp; omega) ?_; intro v1 w3 hr3 _ hb3)
            have HA3 := Lib.hid ((HA.out.below (Bel.alloc (Below.refl _ _) _)).upto (by omega : b < W.heap.size) hb3)
            have HB3 := Lib.hid ((HB.out.alloc _).uptoR hb3 hsW)
            have hbel3 := (Bel.alloc hbel (.cells #[] 55)).trans (hb3.mono (by omega))
            have HR3 := Lib.hid hr3
            have hs3 := hb3.size
            rw [World.alloc] at hs3
            simp only [Array.size_push] at hs3
            clear hr3 hb3 HA HB
            have B1 := HB3.out
            have c0 : w3.cell? ⟨w.heap.size, 0, none⟩ = some (.int .i64 x.Day) := B1.cell 0
            have c1 : w3.cell? ⟨w.heap.size, 1, none⟩ = some (.int .i64 x.Told) := B1.cell 1
            have c2 : w3.cell? ⟨w.heap.size, 2, none⟩ = some (.int .i64 x.Seen) := B1.cell 2
            clear B1
            go_upto_region 14 with (at_builtin; refine wpList_pushVerifiedR rfl _ _ 44 rfl W.heap.size 55 Try.underlying44 (by kernel_rfl) v1 ([] ++ xs.take k) x rfl HR3.out 1 rfl (by rw [List.nil_append, List.length_take]; omega) (by omega) ?_; intro v2 w4 hr4 hb4)
            have HA4 := Lib.hid (HA3.out.upto (by omega : b < W.heap.size) hb4)
            have hbel4 := hbel3.trans (hb4.mono (by omega))
            have HR4 := Lib.hid hr4
            have hs4 := hb4.size
            have hl4 : ([] ++ xs.take k ++ [x]).length = k + 1 := by simp; omega
            have HL4 := Lib.hid hl4
            clear c0 c1 c2 hr4 hb4 HA3 HB3 HR3 hl4
            by_cases hck : c = k
            · subst hck
              go_wp2_with (at_builtin; refine wpList_pushN rfl _ _ 44 rfl W.heap.size 55 (.agg #[.int .i64 0, .int .i64 0, .int .i64 0]) 3 24 Try.underlying44 (by kernel_rfl) rfl (by decide) (by decide) SVerified.cells v2 ([] ++ xs.take c ++ [x]) (xs.drop c) rfl HR4.out b 0 0 0 (by rw [List.length_drop]; omega) rfl (fun _ => rfl) (fun i hi => absurd hi (by rw [List.length_drop]; omega)) oneVerified (by rw [HL4.out, List.length_drop]; omega) (by omega) ?_; intro v3 w5 hr5 hno5 hb5)
              go_ret2
              refine ⟨⟨[] ++ xs.take c ++ [x] ++ xs.drop c, v3, 0, rfl, fun _ => ⟨?_, hr5.lower (by omega), hr5.own_some (by simp; omega)⟩⟩, hbel4.trans (hb5.mono (by omega))⟩
              rw [List.length_append, HL4.out, List.length_drop]; omega
            · go_wp2_with (at_builtin; refine wpList_pushN rfl _ _ 44 rfl W.heap.size 55 (.agg #[.int .i64 0, .int .i64 0, .int .i64 0]) 3 24 Try.underlying44 (by kernel_rfl) rfl (by decide) (by decide) SVerified.cells v2 ([] ++ xs.take k ++ [x]) (xs.drop k) rfl HR4.out b (k * 3) (c - k) (xs.length - k) (by rw [List.length_drop]) rfl (fun _ => rfl) (dropC HA4.out k) oneVerified (by rw [HL4.out, List.length_drop]; omega) (by omega) ?_; intro v3 w5 hr5 hno5 hb5)
              go_ret2
              refine ⟨⟨[] ++ xs.take k ++ [x] ++ xs.drop k, v3, 0, rfl, fun _ => ⟨?_, hr5.lower (by omega), hr5.own_some (by simp; omega)⟩⟩, hbel4.trans (hb5.mono (by omega))⟩
              rw [List.length_append, HL4.out, List.length_drop]; omega
          · go_wp2
            go_ret2
            exact ⟨⟨[], _, _, rfl, fun h => absurd h (by decide)⟩, hbel⟩
        · go_wp2_with fail
          refine wp_region_past (by kernel_rfl) (by kernel_rfl) ?_
          repeat (go_big_quiet_step (fail))
          refine wpQuiet_nil ?_
          intro W2 hw'
          obtain ⟨⟨W_, hb3⟩, hw''⟩ := hw'
          subst hw''
          have hbel := Bel.trans hbel hb3
          go_wp2
          go_ret2
          exact ⟨⟨[], _, _, rfl, fun h => absurd h (by decide)⟩, hbel⟩
    · have hszW := hb2.size
      clear hb2 hbw
      go_wp2_with fail
      refine wp_region_past (by kernel_rfl) (by kernel_rfl) ?_
      repeat (go_big_quiet_step (fail))
      refine wpQuiet_nil ?_
      intro W1 hw'
      obtain ⟨⟨W_, hb3⟩, hw''⟩ := hw'
      subst hw''
      have hbel := Bel.trans hbel hb3
      have hszW1 := hb3.size
      go_wp2_with fail
      refine wp_region_past (by kernel_rfl) (by kernel_rfl) ?_
      repeat (go_big_quiet_step (fail))
      refine wpQuiet_nil ?_
      intro W2 hw'
      obtain ⟨⟨W_, hb4⟩, hw''⟩ := hw'
      subst hw''
      have hszW2 := hb4.size
      have HA := Lib.hid ((HA.out.below hb3).below hb4)
      have HB := Lib.hid ((HB.out.below hb3).below hb4)
      have hbel := Bel.trans hbel hb4
      clear hb3 hb4 p0 p1 p2
      cases hm : (xs.length : Int) == 64
      · have hkc : (k : Int) ≤ (c : Int) := by omega
        have hkl : (k : Int) ≤ (xs.length : Int) := by omega
        have hsz : W.heap.size ≤ W2.heap.size := by omega
        go_upto_region 13 with (at_builtin; refine wpList_pushN rfl _ _ 44 rfl W.heap.size 55 (.agg #[.int .i64 0, .int .i64 0, .int .i64 0]) 3 24 Try.underlying44 (by kernel_rfl) rfl (by decide) (by decide) SVerified.cells (.slice (some ⟨W2.heap.size, 0, none⟩) 0 0) [] (xs.take k) rfl (Row.empty hsz) b 0 c k (by rw [List.length_take]; omega) rfl (fun _ => rfl) (takeC (HA.out.below (Bel.alloc (Below.refl _ _) _)) k) oneVerified (by rw [List.length_take]; simp; omega) (by simp; omega) ?_; intro v1 w3 hr3 _ hb3)
        have HA3 := Lib.hid ((HA.out.below (Bel.alloc (Below.refl _ _) _)).upto (by omega : b < W.heap.size) hb3)
        have HB3 := Lib.hid ((HB.out.alloc _).uptoR hb3 hsW)
        have hbel3 := (Bel.alloc hbel (.cells #[] 55)).trans (hb3.mono (by omega))
        have HR3 := Lib.hid hr3
        have hs3 := hb3.size
        rw [World.alloc] at hs3
        simp only [Array.size_push] at hs3
        clear hr3 hb3 HA HB
        have B1 := HB3.out
        have c0 : w3.cell? ⟨w.heap.size, 0, none⟩ = some (.int .i64 x.Day) := B1.cell 0
        have c1 : w3.cell? ⟨w.heap.size, 1, none⟩ = some (.int .i64 x.Told) := B1.cell 1
        have c2 : w3.cell? ⟨w.heap.size, 2, none⟩ = some (.int .i64 x.Seen) := B1.cell 2
        clear B1
        go_upto_region 14 with (at_builtin; refine wpList_pushVerifiedR rfl _ _ 44 rfl W.heap.size 55 Try.underlying44 (by kernel_rfl) v1 ([] ++ xs.take k) x rfl HR3.out 1 rfl (by rw [List.nil_append, List.length_take]; omega) (by omega) ?_; intro v2 w4 hr4 hb4)
        have HA4 := Lib.hid (HA3.out.upto (by omega : b < W.heap.size) hb4)
        have hbel4 := hbel3.trans (hb4.mono (by omega))
        have HR4 := Lib.hid hr4
        have hs4 := hb4.size
        have hl4 : ([] ++ xs.take k ++ [x]).length = k + 1 := by simp; omega
        have HL4 := Lib.hid hl4
        clear c0 c1 c2 hr4 hb4 HA3 HB3 HR3 hl4
        by_cases hck : c = k
        · subst hck
          go_wp2_with (at_builtin; refine wpList_pushN rfl _ _ 44 rfl W.heap.size 55 (.agg #[.int .i64 0, .int .i64 0, .int .i64 0]) 3 24 Try.underlying44 (by kernel_rfl) rfl (by decide) (by decide) SVerified.cells v2 ([] ++ xs.take c ++ [x]) (xs.drop c) rfl HR4.out b 0 0 0 (by rw [List.length_drop]; omega) rfl (fun _ => rfl) (fun i hi => absurd hi (by rw [List.length_drop]; omega)) oneVerified (by rw [HL4.out, List.length_drop]; omega) (by omega) ?_; intro v3 w5 hr5 hno5 hb5)
          go_ret2
          refine ⟨⟨[] ++ xs.take c ++ [x] ++ xs.drop c, v3, 0, rfl, fun _ => ⟨?_, hr5.lower (by omega), hr5.own_some (by simp; omega)⟩⟩, hbel4.trans (hb5.mono (by omega))⟩
          rw [List.length_append, HL4.out, List.length_drop]; omega
        · go_wp2_with (at_builtin; refine wpList_pushN rfl _ _ 44 rfl W.heap.size 55 (.agg #[.int .i64 0, .int .i64 0, .int .i64 0]) 3 24 Try.underlying44 (by kernel_rfl) rfl (by decide) (by decide) SVerified.cells v2 ([] ++ xs.take k ++ [x]) (xs.drop k) rfl HR4.out b (k * 3) (c - k) (xs.length - k) (by rw [List.length_drop]) rfl (fun _ => rfl) (dropC HA4.out k) oneVerified (by rw [HL4.out, List.length_drop]; omega) (by omega) ?_; intro v3 w5 hr5 hno5 hb5)
          go_ret2
          refine ⟨⟨[] ++ xs.take k ++ [x] ++ xs.drop k, v3, 0, rfl, fun _ => ⟨?_, hr5.lower (by omega), hr5.own_some (by simp; omega)⟩⟩, hbel4.trans (hb5.mono (by omega))⟩
          rw [List.length_append, HL4.out, List.length_drop]; omega
      · go_wp2
        go_ret2
        exact ⟨⟨[], _, _, rfl, fun h => absurd h (by decide)⟩, hbel⟩
end Go.Proofs.Ytcjalooaikfkbaa
