/- Chapter 4: observations without odd ones: the walks. -/
import Derived.Test.YtcjalooaikfkbaaL04b
namespace Go.Proofs.Ytcjalooaikfkbaa
set_option linter.unusedSimpArgs false
set_option linter.unusedVariables false
open Go.RowKit
set_option maxHeartbeats 400000
set_option maxRecDepth 100000
/-- append(v, x) for observations. -/
theorem wpList_pushO {P : Program} {ops : Array Oper} {rest : List Oper} {o : Oper} {a : Act} {Q : Exit → Act → World → Prop} {w : World} (hgd : o.guard = none) (s x : Operand) (t : TypeId)
    (ho : o.op = .call { callee := .builtin .append, args := #[s, x], argTypes := #[t, t] }) (base : Nat) (e : TypeId) (ht : P.underlying t = some (.slice e))
    (hi : (P.info? e).map (fun i => (i.zero, i.size, i.bytes)) = some (some (.agg #[.int .i64 0, .int .i64 0, .int .i64 0, .int .i64 0]), 4, 32))
    (v : Value) (ys : List SObserved) (y : SObserved) (hs : a.eval s = v) (R : Row SObserved.cells 4 e w base v ys) (c : Nat) (hx : a.eval x = .slice (some ⟨w.heap.size, 0, none⟩) 1 c) (hn : ys.length ≤ 1048577) (hbase : base ≤ w.heap.size)
    (h : ∀ v' w', Row SObserved.cells 4 e w' base v' (ys ++ [y]) → Below base w w' → wpList P ops Q rest (a.put o.dst v') w') :
    wpList P ops Q (o :: rest) a (w.alloc (.cells #[.int .i64 y.Hour, .int .i64 y.Snow, .int .i64 y.Degrees, .int .i64 y.Wind] e)) := by
  refine wpList_push hgd s x t ho base e (.agg #[.int .i64 0, .int .i64 0, .int .i64 0, .int .i64 0]) 4 32 ht hi rfl (by decide) (by decide) SObserved.cells v ys y hs (R.alloc _) w.heap.size c hx rfl (fun j u hu => ?_) (fun u hu => ?_) hn (by simp; omega) fun v' w' hr hg hb => h v' w' hr ?_
  · rw [(Box.new w e #[.int .i64 y.Hour, .int .i64 y.Snow, .int .i64 y.Degrees, .int .i64 y.Wind]).cell j]; simpa [SObserved.cells] using hu
  · simp only [SObserved.cells, List.mem_cons, List.not_mem_nil, or_false] at hu
    rcases hu with rfl | rfl | rfl | rfl <;> rfl
  · exact ((Below.refl base w).alloc hbase _).trans hb
def keepO (s d : Int) (L : List SObserved) (x : SObserved) : Bool := match L.getLast? with
  | some y => !oddO s d y x
  | none => true
theorem keepO_nil {s d : Int} {L : List SObserved} {x : SObserved} (h : L.length = 0) : keepO s d L x = true := by
  rw [List.eq_nil_of_length_eq_zero h]; rfl
theorem keepO_at {s d : Int} {L : List SObserved} {x : SObserved} (h : 0 < L.length) : keepO s d L x = !oddO s d (L[L.length - 1]'(by omega)) x := by
  rw [keepO, List.getLast?_eq_getElem?, List.getElem?_eq_getElem (show L.length - 1 < L.length by omega)]
/-- what is kept of the first k -/
def woTo (s d : Int) (xs : List SObserved) : Nat → List SObserved
  | 0 => []
  | k + 1 => if h : k < xs.length then (if keepO s d (woTo s d xs k) xs[k] then woTo s d xs k ++ [xs[k]] else woTo s d xs k) else woTo s d xs k
theorem wo_yes {s d : Int} {xs L : List SObserved} {k : Nat} (hk : k < xs.length) (hL : woTo s d xs k = L) (h : keepO s d L xs[k] = true) : woTo s d xs (k + 1) = L ++ [xs[k]] := by rw [woTo, dif_pos hk, hL, if_pos h]
theorem wo_no {s d : Int} {xs L : List SObserved} {k : Nat} (hk : k < xs.length) (hL : woTo s d xs k = L) (h : keepO s d L xs[k] = false) : woTo s d xs (k + 1) = L := by rw [woTo, dif_pos hk, hL, if_neg (by rw [h]; simp)]
theorem wo_len (s d : Int) (xs : List SObserved) (k : Nat) : (woTo s d xs k).length ≤ k := by
  induction k with
  | zero => simp [woTo]
  | succ k ih =>
    rw [woTo]
    split
    · split
      · rw [List.length_append]; simp; omega
      · omega
    · omega
theorem wo_mem (s d : Int) (xs : List SObserved) (k : Nat) : ∀ y ∈ woTo s d xs k, ∃ (i : Nat) (h : i < xs.length), i < k ∧ y = xs[i] := by
  induction k with
  | zero => intro y hy; simp [woTo] at hy
  | succ k ih =>
    intro y hy
    rw [woTo] at hy
    split at hy
    · rename_i hk
      split at hy
      · rw [List.mem_append] at hy
        rcases hy with hy | hy
        · obtain ⟨i, h, h1, h2⟩ := ih y hy
          exact ⟨i, h, by omega, h2⟩
        · rw [List.mem_singleton] at hy
          exact ⟨k, hk, by omega, hy⟩
      · obtain ⟨i, h, h1, h2⟩ := ih y hy
        exact ⟨i, h, by omega, h2⟩
    · obtain ⟨i, h, h1, h2⟩ := ih y hy
      exact ⟨i, h, by omega, h2⟩
theorem wo_last {s d : Int} {xs L : List SObserved} {k : Nat} (hv : vlObserved xs = true) (hk : k < xs.length) (hL : woTo s d xs k = L) (h : 0 < L.length) : okObserved (L[L.length - 1]'(by omega)) = true ∧ (L[L.length - 1]'(by omega)).Hour ≤ xs[k].Hour := by
  have hm : L[L.length - 1]'(by omega) ∈ woTo s d xs k := by rw [hL]; exact List.getElem_mem _
  obtain ⟨i, h1, h2, h3⟩ := wo_mem s d xs k _ hm
  rw [h3]
  exact ⟨vlObserved_ok hv i h1, Int.le_of_lt (hours_lt hv h2 hk)⟩
def woRes (xs : List SObserved) (s d : Int) : List SObserved × Int := if vlObserved xs then (if lims s d then (woTo s d xs xs.length, 0) else ([], 2)) else ([], 1)
theorem woRes_0 {xs : List SObserved} {s d : Int} (h : vlObserved xs = true) (h2 : lims s d = true) : woRes xs s d = (woTo s d xs xs.length, 0) := by rw [woRes, if_pos h, if_pos h2]
theorem woRes_1 {xs : List SObserved} {s d : Int} (h : vlObserved xs = false) : woRes xs s d = ([], 1) := by rw [woRes, if_neg (by rw [h]; simp)]
theorem woRes_2 {xs : List SObserved} {s d : Int} (h : vlObserved xs = true) (h2 : lims s d = false) : woRes xs s d = ([], 2) := by rw [woRes, if_pos h, if_neg (by rw [h2]; simp)]
theorem woRes_len {xs : List SObserved} {s d : Int} : (woRes xs s d).1.length ≤ 48 := by
  unfold woRes
  split
  · rename_i h
    have h1 := vlObserved_len h
    split
    · have := wo_len s d xs xs.length; simp only; omega
    · simp
  · simp
theorem WithoutOdd_any (xs : List SObserved) (b c : Nat) (s d : Int) (w : World) (A : Arr SObserved.cells 4 w b xs) (hn : xs.length ≤ 1048576) :
    Calls Try.prog 30 #[.slice (some ⟨b, 0, none⟩) xs.length c, .int .i64 s, .int .i64 d] w fun e w' => (∃ v, e = .returned (.tuple #[v, .int .i64 (woRes xs s d).2]) ∧ Row SObserved.cells 4 66 w' w.heap.size v (woRes xs s d).1) ∧ Below w.heap.size w w' := by
  have HA := Lib.hid A
  clear A
  cases hv : vlObserved xs
  · have HV := Lib.hid hv
    clear hv
    go_enter Try.func30, Try.ntmps30
    go_wp2_with (go_at_call 70; refine (Calls.intIs (odc_1 HV.out) (oddCode_any xs b c s d _ HA.out hn)).mono ?_; rintro e w1 ⟨rfl, hb1⟩)
    go_ret2
    rw [woRes_1 HV.out]
    exact ⟨⟨_, rfl, Row.nil⟩, hb1⟩
  cases hq : lims s d
  · have HV := Lib.hid hv
    have HQ := Lib.hid hq
    clear hv hq
    go_enter Try.func30, Try.ntmps30
    go_wp2_with (go_at_call 70; refine (Calls.intIs (odc_2 HV.out HQ.out) (oddCode_any xs b c s d _ HA.out hn)).mono ?_; rintro e w1 ⟨rfl, hb1⟩)
    go_ret2
    rw [woRes_2 HV.out HQ.out]
    exact ⟨⟨_, rfl, Row.nil⟩, hb1⟩
  obtain ⟨hs0, hs1, hd0, hd1⟩ := lims_bd hq
  have hlen := vlObserved_len hv
  have HV := Lib.hid hv
  have HLM := Lib.hid hq
  clear hv hq
  go_enter Try.func30, Try.ntmps30
  go_wp2_with (go_at_call 70; refine (Calls.intIs (odc_0 HV.out HLM.out) (oddCode_any xs b c s d _ HA.out hn)).mono ?_; rintro e w1 ⟨rfl, hb1⟩)
  go_loopw [9, 21] (fun v i wr => ∃ (k : Nat) (L : List SObserved), k ≤ xs.length ∧ i = .int .i64 k ∧ woTo s d xs k = L ∧ Row SObserved.cells 4 66 wr w.heap.size v L ∧ Below w.heap.size w wr) (fun _ i wr => xs.length - (intOf i).toNat)
  case atStart => exact ⟨0, [], by omega, rfl, rfl, Row.nil, hb1⟩
  case round =>
    obtain ⟨k, L, hk, rfl, hL, hrow, hbel⟩ := hrel
    have hle := wo_len s d xs k
    rw [hL] at hle
    obtain ⟨D, dd, rfl, hS⟩ := hrow.form (fun _ => rfl)
    have HR := Lib.hid hrow
    have HS := Lib.hid hS
    have HL := Lib.hid hL
    clear hrow hL hS
    by_cases hlt : k < xs.length
    · obtain ⟨e0, e1, e2, e3⟩ := SObserved.elem (HA.out.below hbel) hlt
      go_wp2_with fail
      refine wp_box_out ?_
      intro W hbw BX
      have HR := Lib.hid (HR.out.below hbw)
      have hbe2 := Bel.trans hbel hbw
      clear e0 e1 e2 e3
      have p0 := Past.box BX (j := 0) (v := .int .i64 xs[k].Hour) rfl
      have p1 := Past.box BX (j := 1) (v := .int .i64 xs[k].Snow) rfl
      have p2 := Past.box BX (j := 2) (v := .int .i64 xs[k].Degrees) rfl
      have p3 := Past.box BX (j := 3) (v := .int .i64 xs[k].Wind) rfl
      have HBX := Lib.hid BX
      clear BX
      by_cases h0 : L.length = 0
      · have hz : ((L.length : Int) == 0) = true := beq_iff_eq.mpr (by omega)
        have HN := Lib.hid (wo_yes hlt HL.out (keepO_nil h0))
        clear h0
        refine wp_region_past (by kernel_rfl) (by kernel_rfl) ?_
        repeat (go_big_quiet_step (fail))
        refine wpQuiet_nil ?_
        intro W1 hw'
        obtain ⟨⟨W_, hbx⟩, hw''⟩ := hw'
        subst hw''
        have HR := Lib.hid (HR.out.below hbx)
        have HBX := HBX.out.below hbx
        have c0 := HBX.cell 0
        have c1 := HBX.cell 1
        have c2 := HBX.cell 2
        have c3 := HBX.cell 3
        have hbel := Bel.trans hbe2 hbx
        have hsz := hbel.size
        clear p0 p1 p2 p3 HBX
        go_wp2_with (at_builtin; refine wpList_pushO rfl _ _ 57 rfl w.heap.size 66 Try.underlying57 (by kernel_rfl) (.slice D L.length dd) L xs[k] rfl HR.out 1 rfl (by omega) hsz ?_; intro v' w3 hr3 hb4)
        go_roundw
        case rel => exact ⟨k + 1, _, by omega, by go_num, HN.out, hr3, hbel.trans hb4⟩
        case measure => simp [intOf]; omega
      · have hpos : 0 < L.length := by omega
        have hz : ((L.length : Int) == 0) = false := beq_eq_false_iff_ne.mpr (by omega)
        have hz1 : (1 : Int) ≤ (L.length : Int) := by omega
        have hz2 : IntKind.i64.wrap ((L.length : Int) - 1) = (L.length : Int) - 1 := IntWalk.i64_in _ (by omega)
        have hz3 : ((L.length : Int) - 1).toNat = L.length - 1 := by omega
        obtain ⟨hokl, hhl⟩ := wo_last HV.out hlt HL.out hpos
        have HOK := Lib.hid hokl
        have HHL := Lib.hid hhl
        have HX := Lib.hid (vlObserved_ok HV.out k hlt)
        obtain ⟨g, o, rfl, hc⟩ := HS.out hpos
        have hgb := Nat.lt_of_lt_of_le hc.1 hbw.size
        obtain ⟨f0, f1, f2, f3⟩ := SObserved.arg (hc.below hbw hc.1) (show L.length - 1 < L.length by omega)
        have q0 := Past.cell f0 hgb
        have q1 := Past.cell f1 hgb
        have q2 := Past.cell f2 hgb
        have q3 := Past.cell f3 hgb
        obtain ⟨y, hy⟩ : ∃ y, L[L.length - 1]'(by omega) = y := ⟨_, rfl⟩
        have hkp := keepO_at (s := s) (d := d) (x := xs[k]) hpos
        simp only [hy] at q0 q1 q2 q3 hkp
        have HY := HOK.out
        have HHY := HHL.out
        simp only [hy] at HY HHY
        have HOK := Lib.hid HY
        have HHL := Lib.hid HHY
        clear f0 f1 f2 f3 hc hokl hhl HY HHY hy h0
        cases ho : oddO s d y xs[k]
        · have HN := Lib.hid (wo_yes hlt HL.out (by rw [hkp, ho]; rfl))
          have HO := Lib.hid ho
          clear hkp ho
          refine wp_region_past (by kernel_rfl) (by kernel_rfl) ?_
          repeat (go_big_quiet_step ((go_at_call 71; exact Past.callB _ HO.out (odd_any xs[k] y s d _ HX.out HOK.out HHL.out hs0 hs1 hd0 hd1))))
          refine wpQuiet_nil ?_
          intro W1 hw'
          obtain ⟨⟨W_, hbx⟩, hw''⟩ := hw'
          subst hw''
          have HR := Lib.hid (HR.out.below hbx)
          have HBX := HBX.out.below hbx
          have c0 := HBX.cell 0
          have c1 := HBX.cell 1
          have c2 := HBX.cell 2
          have c3 := HBX.cell 3
          have hbel := Bel.trans hbe2 hbx
          have hsz := hbel.size
          clear p0 p1 p2 p3 q0 q1 q2 q3 HBX hz1 hz2 hz3
          go_wp2_with (at_builtin; refine wpList_pushO rfl _ _ 57 rfl w.heap.size 66 Try.underlying57 (by kernel_rfl) (.slice (some ⟨g, o, none⟩) L.length dd) L xs[k] rfl HR.out 1 rfl (by omega) hsz ?_; intro v' w3 hr3 hb4)
          go_roundw
          case rel => exact ⟨k + 1, _, by omega, by go_num, HN.out, hr3, hbel.trans hb4⟩
          case measure => simp [intOf]; omega
        · have HN := Lib.hid (wo_no hlt HL.out (by rw [hkp, ho]; rfl))
          have HO := Lib.hid ho
          clear hkp ho
          refine wp_region_past (by kernel_rfl) (by kernel_rfl) ?_
          repeat (go_big_quiet_step ((go_at_call 71; exact Past.callB _ HO.out (odd_any xs[k] y s d _ HX.out HOK.out HHL.out hs0 hs1 hd0 hd1))))
          refine wpQuiet_nil ?_
          intro W1 hw'
          obtain ⟨⟨W_, hbx⟩, hw''⟩ := hw'
          subst hw''
          have HR := Lib.hid (HR.out.below hbx)
          have hbel := Bel.trans hbe2 hbx
          clear p0 p1 p2 p3 q0 q1 q2 q3 hz1 hz2 hz3
          go_wp2
          go_roundw
          case rel => exact ⟨k + 1, _, by omega, by go_num, HN.out, HR.out, hbel⟩
          case measure => simp [intOf]; omega
    · obtain rfl : k = xs.length := by omega
      go_wp2
      go_ret2
      rw [woRes_0 HV.out HLM.out, HL.out]
      exact ⟨⟨_, rfl, HR.out⟩, hbel⟩
end Go.Proofs.Ytcjalooaikfkbaa
