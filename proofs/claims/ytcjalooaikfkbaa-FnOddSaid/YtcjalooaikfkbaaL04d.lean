/- Chapter 4: two stations compared: the walks. -/
import Derived.Test.YtcjalooaikfkbaaL04c
namespace Go.Proofs.Ytcjalooaikfkbaa
set_option linter.unusedSimpArgs false
set_option linter.unusedVariables false
open Go.RowKit
set_option maxHeartbeats 400000
set_option maxRecDepth 100000
theorem vint {a b : Int} (h : a = b) : Value.int .i64 a = .int .i64 b := by rw [h]
theorem uniq {ys : List SObserved} (hv : vlObserved ys = true) {h : Int} {j : Nat} (hj : j < ys.length) : (ys[j].Hour == h) = (hasL ys h && decide (posL ys h = j)) := by
  obtain ⟨a, b, c⟩ := pos_spec hv h
  cases hh : (ys[j].Hour == h)
  · by_cases e : posL ys h = j
    · subst e; rw [has_at rfl hj, hh]; rfl
    · rw [decide_eq_false e, Bool.and_false]
  · rw [beq_iff_eq] at hh
    have h1 : ¬ j < posL ys h := fun hl => by have := b j hj hl; omega
    have h2 : ¬ posL ys h < j := fun hl => by
      have := c (posL ys h) (by omega) (Nat.le_refl _)
      have := hours_lt hv (i := posL ys h) (j := j) hl hj
      omega
    have e : posL ys h = j := by omega
    rw [has_at e hj, decide_eq_true e]
    simp [hh]
def distO (x y : SObserved) : Int := max (x.Snow - y.Snow) (-(x.Snow - y.Snow))
def sAt (ys : List SObserved) (i : Nat) (x : SObserved) : Int := match ys[i]? with
  | some y => distO x y
  | none => 0
theorem sAt_eq {ys : List SObserved} {i : Nat} {x : SObserved} (h : i < ys.length) : sAt ys i x = distO x ys[i] := by rw [sAt, List.getElem?_eq_getElem h]
/-- the state after the first k observations of xs -/
def csTo (xs ys : List SObserved) : Nat → Int × Int
  | 0 => (0, 0)
  | k + 1 => if h : k < xs.length then (if hasL ys xs[k].Hour then ((csTo xs ys k).1 + 1, (csTo xs ys k).2 + sAt ys (posL ys xs[k].Hour) xs[k]) else csTo xs ys k) else csTo xs ys k
theorem cs_yes {xs ys : List SObserved} {k : Nat} {n t : Int} (hk : k < xs.length) (hc : csTo xs ys k = (n, t)) (h : hasL ys xs[k].Hour = true) : csTo xs ys (k + 1) = (n + 1, t + sAt ys (posL ys xs[k].Hour) xs[k]) := by rw [csTo, dif_pos hk, if_pos h, hc]
theorem cs_no {xs ys : List SObserved} {k : Nat} {n t : Int} (hk : k < xs.length) (hc : csTo xs ys k = (n, t)) (h : hasL ys xs[k].Hour = false) : csTo xs ys (k + 1) = (n, t) := by rw [csTo, dif_pos hk, if_neg (by rw [h]; simp), hc]
theorem distO_bd {x y : SObserved} (hx : okObserved x = true) (hy : okObserved y = true) : 0 ≤ distO x y ∧ distO x y ≤ 2000 := by
  have := okObserved_bd hx
  have := okObserved_bd hy
  unfold distO; omega
theorem sAt_bd {ys : List SObserved} (hv : vlObserved ys = true) {x : SObserved} (hx : okObserved x = true) (i : Nat) : 0 ≤ sAt ys i x ∧ sAt ys i x ≤ 2000 := by
  by_cases h : i < ys.length
  · rw [sAt_eq h]; exact distO_bd hx (vlObserved_ok hv i h)
  · rw [sAt, List.getElem?_eq_none (by omega)]; simp
theorem cs_bd {xs ys : List SObserved} (hx : vlObserved xs = true) (hy : vlObserved ys = true) (k : Nat) : 0 ≤ (csTo xs ys k).1 ∧ (csTo xs ys k).1 ≤ k ∧ 0 ≤ (csTo xs ys k).2 ∧ (csTo xs ys k).2 ≤ 2000 * k := by
  induction k with
  | zero => simp [csTo]
  | succ k ih =>
    rw [csTo]
    split
    · rename_i h
      have := sAt_bd hy (vlObserved_ok hx k h) (posL ys xs[k].Hour)
      split
      · simp only; omega
      · omega
    · omega
def csRes (xs ys : List SObserved) : Int × Int × Int := if vlObserved xs && vlObserved ys then ((csTo xs ys xs.length).1, (csTo xs ys xs.length).2, 0) else (0, 0, 1)
theorem csRes_0 {xs ys : List SObserved} {n t : Int} (hx : vlObserved xs = true) (hy : vlObserved ys = true) (hc : csTo xs ys xs.length = (n, t)) : csRes xs ys = (n, t, 0) := by rw [csRes, hx, hy, Bool.and_self, if_pos rfl, hc]
theorem csRes_1 {xs ys : List SObserved} (h : (vlObserved xs && vlObserved ys) = false) : csRes xs ys = (0, 0, 1) := by rw [csRes, if_neg (by rw [h]; simp)]
theorem CompareStations_any (xs ys : List SObserved) (b c b2 c2 : Nat) (w : World) (A : Arr SObserved.cells 4 w b xs) (A2 : Arr SObserved.cells 4 w b2 ys) (hn : xs.length ≤ 1048576) (hn2 : ys.length ≤ 1048576) :
    Calls Try.prog 33 #[.slice (some ⟨b, 0, none⟩) xs.length c, .slice (some ⟨b2, 0, none⟩) ys.length c2] w fun e w' => e = .returned (.tuple #[.int .i64 (csRes xs ys).1, .int .i64 (csRes xs ys).2.1, .int .i64 (csRes xs ys).2.2]) ∧ Below w.heap.size w w' := by
  have HA := Lib.hid A
  have HB := Lib.hid A2
  clear A A2
  cases hv : vlObserved xs
  · have HV := Lib.hid hv
    clear hv
    go_enter Try.func33, Try.ntmps33
    go_wp2_with fail
    refine (Calls.boolIs HV.out (ValidObserved_any xs b c _ HA.out hn)).mono ?_
    rintro e w1 ⟨rfl, hb1⟩
    go_wp2
    go_ret3
    exact ⟨by rw [csRes_1 (by rw [HV.out]; rfl)]; rfl, hb1⟩
  have hlen := vlObserved_len hv
  have HV := Lib.hid hv
  clear hv
  cases hy : vlObserved ys
  · have HY := Lib.hid hy
    clear hy
    go_enter Try.func33, Try.ntmps33
    go_wp2_with fail
    refine (Calls.boolIs HV.out (ValidObserved_any xs b c _ HA.out hn)).mono ?_
    rintro e w1 ⟨rfl, hb1⟩
    go_wp2_with fail
    refine (Calls.boolIs HY.out (ValidObserved_any ys b2 c2 _ (HB.out.below hb1) hn2)).mono ?_
    rintro e w2 ⟨rfl, hb2⟩
    go_wp2
    go_ret3
    exact ⟨by rw [csRes_1 (by rw [HY.out, Bool.and_false])]; rfl, Bel.trans hb1 hb2⟩
  have hlen2 := vlObserved_len hy
  have HY := Lib.hid hy
  clear hy
  go_enter Try.func33, Try.ntmps33
  go_wp2_with fail
  refine (Calls.boolIs HV.out (ValidObserved_any xs b c _ HA.out hn)).mono ?_
  rintro e w1 ⟨rfl, hb1⟩
  go_wp2_with fail
  refine (Calls.boolIs HY.out (ValidObserved_any ys b2 c2 _ (HB.out.below hb1) hn2)).mono ?_
  rintro e w2 ⟨rfl, hb2⟩
  have hbe := Bel.trans hb1 hb2
  clear hb1 hb2
  go_wp2_with fail
  go_loopw [7, 8, 23] (fun nv tv i wr => ∃ (k : Nat) (n t : Int), k ≤ xs.length ∧ i = .int .i64 k ∧ nv = .int .i64 n ∧ tv = .int .i64 t ∧ csTo xs ys k = (n, t) ∧ Below w.heap.size w wr) (fun _ _ i wr => xs.length - (intOf i).toNat)
  case atStart => exact ⟨0, 0, 0, by omega, rfl, rfl, rfl, rfl, hbe⟩
  case round =>
    obtain ⟨k, n, t, hk, rfl, rfl, rfl, hcs, hbel⟩ := hrel
    have hcb := cs_bd HV.out HY.out k
    rw [hcs] at hcb
    simp only at hcb
    have HCS := Lib.hid hcs
    clear hcs hbe
    by_cases hlt : k < xs.length
    · obtain ⟨e0, e1, e2, e3⟩ := SObserved.elem (HA.out.below hbel) hlt
      have hxb := okObserved_bd (vlObserved_ok HV.out k hlt)
      go_wp2_with fail
      refine calls_box_out ?_
      intro W hbw BX
      have hbw2 := Bel.trans hbel hbw
      refine (bins_any ys b2 c2 xs[k].Hour _ (HB.out.below hbw2) HY.out).mono ?_
      rintro e w2 ⟨rfl, hb2⟩
      have hbel := Bel.trans hbw2 hb2
      have BX := BX.below hb2
      obtain ⟨pp, hpp⟩ : ∃ pp, posL ys xs[k].Hour = pp := ⟨_, rfl⟩
      rw [hpp]
      clear e0 e1 e2 e3 hbw hb2
      cases ha : hasL ys xs[k].Hour
      · have HNX := Lib.hid (cs_no hlt HCS.out ha)
        clear ha hpp BX
        go_wp2
        go_roundw
        case rel => exact ⟨k + 1, n, t, by omega, by go_num, rfl, rfl, HNX.out, hbel⟩
        case measure => simp [intOf]; omega
      · have hppl : pp < ys.length := by
          by_cases h : pp < ys.length
          · exact h
          · rw [has_end hpp h] at ha; cases ha
        have hst := cs_yes hlt HCS.out ha
        rw [hpp, sAt_eq hppl, distO] at hst
        have HNX := Lib.hid hst
        have hyb := okObserved_bd (vlObserved_ok HY.out pp hppl)
        clear ha hpp hst
        go_wp2_with fail
        have p0 := Past.box BX (j := 0) (v := .int .i64 xs[k].Hour) rfl
        have p1 := Past.box BX (j := 1) (v := .int .i64 xs[k].Snow) rfl
        have p2 := Past.box BX (j := 2) (v := .int .i64 xs[k].Degrees) rfl
        have p3 := Past.box BX (j := 3) (v := .int .i64 xs[k].Wind) rfl
        obtain ⟨q0, q1, q2, q3⟩ := SObserved.elems (HB.out.below hbel) hppl
        clear BX
        refine wp_region_past (by kernel_rfl) (by kernel_rfl) ?_
        repeat (go_big_quiet_step ((go_at_call 64; exact Past.same _ (abs_any _ _ (by omega) (by omega)))))
        refine wpQuiet_nil ?_
        intro W3 hw'
        obtain ⟨⟨W_, hb3⟩, hw''⟩ := hw'
        subst hw''
        have hbel := Bel.trans hbel hb3
        clear p0 p1 p2 p3 q0 q1 q2 q3
        go_wp2
        go_roundw
        case rel => exact ⟨k + 1, _, _, by omega, by go_num, rfl, rfl, HNX.out, hbel⟩
        case measure => simp [intOf]; omega
    · obtain rfl : k = xs.length := by omega
      go_wp2
      go_ret3
      exact ⟨by rw [csRes_0 HV.out HY.out HCS.out]; rfl, hbel⟩
end Go.Proofs.Ytcjalooaikfkbaa
