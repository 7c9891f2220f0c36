/- Chapter 4: odd observations: the walks. -/
import Derived.Test.YtcjalooaikfkbaaL04
import Derived.Test.YtcjalooaikfkbaaApp
namespace Go.Proofs.Ytcjalooaikfkbaa
set_option linter.unusedSimpArgs false
set_option linter.unusedVariables false
open Go.RowKit
set_option maxHeartbeats 400000
set_option maxRecDepth 100000
/-- x is odd compared with y, one before it -/
def oddO (s d : Int) (y x : SObserved) : Bool := decide (s * (x.Hour - y.Hour) < max (x.Snow - y.Snow) (-(x.Snow - y.Snow))) || decide (d * (x.Hour - y.Hour) < max (x.Degrees - y.Degrees) (-(x.Degrees - y.Degrees)))
theorem odd_bd {y x : SObserved} {s : Int} (hx : okObserved x = true) (hy : okObserved y = true) (hh : y.Hour ≤ x.Hour) (h0 : 0 ≤ s) (h1 : s ≤ 10000) : 0 ≤ s * (x.Hour - y.Hour) ∧ s * (x.Hour - y.Hour) ≤ 1000000000 := by
  have hbx := okObserved_bd hx
  have hby := okObserved_bd hy
  have a1 := Int.mul_nonneg h0 (show 0 ≤ x.Hour - y.Hour by omega)
  have a2 := Int.mul_le_mul_of_nonneg_right h1 (show 0 ≤ x.Hour - y.Hour by omega)
  omega
theorem odd_any (x y : SObserved) (s d : Int) (w : World) (hx : okObserved x = true) (hy : okObserved y = true) (hh : y.Hour ≤ x.Hour) (hs0 : 0 ≤ s) (hs1 : s ≤ 10000) (hd0 : 0 ≤ d) (hd1 : d ≤ 10000) :
    Calls Try.prog 71 #[.agg #[.int .i64 x.Hour, .int .i64 x.Snow, .int .i64 x.Degrees, .int .i64 x.Wind], .agg #[.int .i64 y.Hour, .int .i64 y.Snow, .int .i64 y.Degrees, .int .i64 y.Wind], .int .i64 s, .int .i64 d] w fun e w' => e = .returned (.bool (oddO s d y x)) ∧ Below w.heap.size w w' := by
  have hbx := okObserved_bd hx
  have hby := okObserved_bd hy
  obtain ⟨m0, m1⟩ := odd_bd hx hy hh hs0 hs1
  obtain ⟨n0, n1⟩ := odd_bd hx hy hh hd0 hd1
  clear hx hy
  go_enter Try.func71, Try.ntmps71
  go_wp2_with (go_at_call 64; refine (abs_any _ _ (by omega) (by omega)).mono ?_; rintro e w' ⟨rfl, rfl⟩)
  all_goals
    go_ret
    exact ⟨ret_bool (by simp_all [oddO]), (by repeat (first | (with_reducible assumption) | (with_reducible exact Below.refl _ _) | (with_reducible refine Bel.alloc ?_ _) | (with_reducible refine Below.drew ?_) | (with_reducible refine Bel.drewN ?_ _) | (with_reducible refine Bel.setCell ?_ (by (try simp) <;> omega) _) | (with_reducible refine Bel.trans ?_ (by assumption))))⟩
def lims (s d : Int) : Bool := inr 0 10000 s && inr 0 10000 d
theorem lims_bd {s d : Int} (h : lims s d = true) : 0 ≤ s ∧ s ≤ 10000 ∧ 0 ≤ d ∧ d ≤ 10000 := by simp [lims, inr] at h; omega
def oddCodeR (xs : List SObserved) (s d : Int) : Int := if vlObserved xs then (if lims s d then 0 else 2) else 1
theorem oddCode_any (xs : List SObserved) (b c : Nat) (s d : Int) (w : World) (A : Arr SObserved.cells 4 w b xs) (hn : xs.length ≤ 1048576) :
    Calls Try.prog 70 #[.slice (some ⟨b, 0, none⟩) xs.length c, .int .i64 s, .int .i64 d] w fun e w' => e = .returned (.int .i64 (oddCodeR xs s d)) ∧ Below w.heap.size w w' := by
  have HA := Lib.hid A
  clear A
  go_enter Try.func70, Try.ntmps70
  go_wp2_with (first | (go_at_call 73; refine (ValidObserved_any xs b c _ HA.out hn).mono ?_; rintro e w1 ⟨rfl, hb1⟩) | (go_at_call 43; refine (within_any _ _ _ _).mono ?_; rintro e w' ⟨rfl, rfl⟩))
  all_goals
    go_ret
    exact ⟨ret_int (by simp_all [oddCodeR, lims]), (by repeat (first | (with_reducible assumption) | (with_reducible exact Below.refl _ _) | (with_reducible refine Bel.alloc ?_ _) | (with_reducible refine Below.drew ?_) | (with_reducible refine Bel.drewN ?_ _) | (with_reducible refine Bel.setCell ?_ (by (try simp) <;> omega) _) | (with_reducible refine Bel.trans ?_ (by assumption))))⟩
def qOdd (s d : Int) (xs : List SObserved) (i : Nat) : Bool := match xs[i]?, xs[i - 1]? with
  | some x, some y => oddO s d y x
  | _, _ => false
theorem qOdd_at {s d : Int} {xs : List SObserved} {i : Nat} (hi : i < xs.length) : qOdd s d xs i = oddO s d (xs[i-1]'(by omega)) xs[i] := by
  rw [qOdd, List.getElem?_eq_getElem hi, List.getElem?_eq_getElem (show i - 1 < xs.length by omega)]
/-- the odd ones of 1, .., k -/
def oddTo (s d : Int) (xs : List SObserved) : Nat → List Int
  | 0 => []
  | k + 1 => if qOdd s d xs (k + 1) then oddTo s d xs k ++ [((k + 1 : Nat) : Int)] else oddTo s d xs k
theorem oddTo_yes {s d : Int} {xs : List SObserved} {k : Nat} (h0 : 0 < k) (h : qOdd s d xs k = true) : oddTo s d xs k = oddTo s d xs (k - 1) ++ [(k : Int)] := by
  obtain ⟨j, rfl⟩ : ∃ j, k = j + 1 := ⟨k - 1, by omega⟩
  rw [oddTo, if_pos h]; rfl
theorem oddTo_no {s d : Int} {xs : List SObserved} {k : Nat} (h0 : 0 < k) (h : qOdd s d xs k = false) : oddTo s d xs k = oddTo s d xs (k - 1) := by
  obtain ⟨j, rfl⟩ : ∃ j, k = j + 1 := ⟨k - 1, by omega⟩
  rw [oddTo, if_neg (by rw [h]; simp)]; rfl
theorem oddTo_len (s d : Int) (xs : List SObserved) (k : Nat) : (oddTo s d xs k).length ≤ k := by
  induction k with
  | zero => simp [oddTo]
  | succ k ih =>
    simp only [oddTo]
    split
    · rw [List.length_append]; simp; omega
    · omega
def ooRes (xs : List SObserved) (s d : Int) : List Int × Int := if vlObserved xs then (if lims s d then (oddTo s d xs (xs.length - 1), 0) else ([], 2)) else ([], 1)
theorem ooRes_0 {xs : List SObserved} {s d : Int} (h : vlObserved xs = true) (h2 : lims s d = true) : ooRes xs s d = (oddTo s d xs (xs.length - 1), 0) := by rw [ooRes, if_pos h, if_pos h2]
theorem ooRes_1 {xs : List SObserved} {s d : Int} (h : vlObserved xs = false) : ooRes xs s d = ([], 1) := by rw [ooRes, if_neg (by rw [h]; simp)]
theorem ooRes_2 {xs : List SObserved} {s d : Int} (h : vlObserved xs = true) (h2 : lims s d = false) : ooRes xs s d = ([], 2) := by rw [ooRes, if_pos h, if_neg (by rw [h2]; simp)]
theorem ooRes_len {xs : List SObserved} {s d : Int} : (ooRes xs s d).1.length ≤ 48 := by
  unfold ooRes
  split
  · rename_i h
    have h1 := vlObserved_len h
    split
    · have := oddTo_len s d xs (xs.length - 1); simp only; omega
    · simp
  · simp
theorem odc_1 {xs : List SObserved} {s d : Int} (h : vlObserved xs = false) : oddCodeR xs s d = 1 := by rw [oddCodeR, if_neg (by rw [h]; simp)]
theorem odc_2 {xs : List SObserved} {s d : Int} (h : vlObserved xs = true) (h2 : lims s d = false) : oddCodeR xs s d = 2 := by rw [oddCodeR, if_pos h, if_neg (by rw [h2]; simp)]
theorem odc_0 {xs : List SObserved} {s d : Int} (h : vlObserved xs = true) (h2 : lims s d = true) : oddCodeR xs s d = 0 := by rw [oddCodeR, if_pos h, if_pos h2]
theorem OddObserved_any (xs : List SObserved) (b c : Nat) (s d : Int) (w : World) (A : Arr SObserved.cells 4 w b xs) (hn : xs.length ≤ 1048576) :
    Calls Try.prog 31 #[.slice (some ⟨b, 0, none⟩) xs.length c, .int .i64 s, .int .i64 d] w fun e w' => (∃ v, e = .returned (.tuple #[v, .int .i64 (ooRes xs s d).2]) ∧ Row intc 1 2 w' w.heap.size v (ooRes xs s d).1) ∧ Below w.heap.size w w' := by
  have HA := Lib.hid A
  clear A
  cases hv : vlObserved xs
  · have HV := Lib.hid hv
    clear hv
    go_enter Try.func31, Try.ntmps31
    go_wp2_with (go_at_call 70; refine (Calls.intIs (odc_1 HV.out) (oddCode_any xs b c s d _ HA.out hn)).mono ?_; rintro e w1 ⟨rfl, hb1⟩)
    go_ret2
    rw [ooRes_1 HV.out]
    exact ⟨⟨_, rfl, Row.nil⟩, hb1⟩
  cases hq : lims s d
  · have HV := Lib.hid hv
    have HQ := Lib.hid hq
    clear hv hq
    go_enter Try.func31, Try.ntmps31
    go_wp2_with (go_at_call 70; refine (Calls.intIs (odc_2 HV.out HQ.out) (oddCode_any xs b c s d _ HA.out hn)).mono ?_; rintro e w1 ⟨rfl, hb1⟩)
    go_ret2
    rw [ooRes_2 HV.out HQ.out]
    exact ⟨⟨_, rfl, Row.nil⟩, hb1⟩
  obtain ⟨hs0, hs1, hd0, hd1⟩ := lims_bd hq
  have hlen := vlObserved_len hv
  have HV := Lib.hid hv
  have HLM := Lib.hid hq
  clear hv hq
  go_enter Try.func31, Try.ntmps31
  go_wp2_with (go_at_call 70; refine (Calls.intIs (odc_0 HV.out HLM.out) (oddCode_any xs b c s d _ HA.out hn)).mono ?_; rintro e w1 ⟨rfl, hb1⟩)
  go_loopw [9, 10] (fun v i wr => ∃ k : Nat, 1 ≤ k ∧ (k ≤ xs.length ∨ k = 1) ∧ i = .int .i64 k ∧ Row intc 1 2 wr w.heap.size v (oddTo s d xs (k - 1)) ∧ Below w.heap.size w wr) (fun _ i wr => xs.length - (intOf i).toNat)
  case atStart => exact ⟨1, by omega, Or.inr rfl, rfl, Row.nil, hb1⟩
  case round =>
    obtain ⟨k, hk1, hk, rfl, hrow, hbel⟩ := hrel
    have HR := Lib.hid hrow
    clear hrow
    by_cases hlt : k < xs.length
    · have hz1 : (1 : Int) ≤ (k : Int) := by omega
      have hz2 : IntKind.i64.wrap ((k : Int) - 1) = (k : Int) - 1 := IntWalk.i64_in _ (by omega)
      have hz3 : ((k : Int) - 1).toNat = k - 1 := by omega
      have hlt' : k - 1 < xs.length := by omega
      obtain ⟨p0, p1, p2, p3⟩ := SObserved.elems (HA.out.below hbel) hlt
      obtain ⟨f0, f1, f2, f3⟩ := SObserved.elems (HA.out.below hbel) hlt'
      have HX := Lib.hid (vlObserved_ok HV.out k hlt)
      have HY := Lib.hid (vlObserved_ok HV.out (k - 1) hlt')
      have HHL := Lib.hid (Int.le_of_lt (hours_lt1 HV.out hlt (by omega)))
      have hle := oddTo_len s d xs (k - 1)
      go_wp2_with fail
      cases ho : oddO s d (xs[k-1]) xs[k]
      · have hqo : qOdd s d xs k = false := by rw [qOdd_at hlt, ho]
        have HQO := Lib.hid (oddTo_no (by omega) hqo)
        have HO := Lib.hid ho
        clear hqo ho
        refine wp_region_past (by kernel_rfl) (by kernel_rfl) ?_
        repeat (go_big_quiet_step ((go_at_call 71; exact Past.callB _ HO.out (odd_any xs[k] (xs[k-1]) s d _ HX.out HY.out HHL.out hs0 hs1 hd0 hd1))))
        refine wpQuiet_nil ?_
        intro W1 hw'
        obtain ⟨⟨W_, hbx⟩, hw''⟩ := hw'
        subst hw''
        have HR := Lib.hid (HR.out.below hbx)
        have hbel := Bel.trans hbel hbx
        clear p0 p1 p2 p3 f0 f1 f2 f3
        go_wp2
        go_roundw
        case rel => exact ⟨k + 1, by omega, Or.inl (by omega), by go_num, by rw [show k + 1 - 1 = k by omega, HQO.out]; exact HR.out, hbel⟩
        case measure => simp [intOf]; omega
      · have hqo : qOdd s d xs k = true := by rw [qOdd_at hlt, ho]
        have HQO := Lib.hid (oddTo_yes (by omega) hqo)
        have HO := Lib.hid ho
        clear hqo ho
        refine wp_region_past (by kernel_rfl) (by kernel_rfl) ?_
        repeat (go_big_quiet_step ((go_at_call 71; exact Past.callB _ HO.out (odd_any xs[k] (xs[k-1]) s d _ HX.out HY.out HHL.out hs0 hs1 hd0 hd1))))
        refine wpQuiet_nil ?_
        intro W1 hw'
        obtain ⟨⟨W_, hbx⟩, hw''⟩ := hw'
        subst hw''
        have HR := Lib.hid (HR.out.below hbx)
        have hbel := Bel.trans hbel hbx
        have hsz := hbel.size
        clear p0 p1 p2 p3 f0 f1 f2 f3
        go_wp2_with (at_builtin; refine wpList_pushI rfl _ _ 38 rfl w.heap.size 2 Try.underlying38 (by kernel_rfl) u9 (oddTo s d xs (k - 1)) (k : Int) rfl HR.out 1 rfl (by omega) hsz ?_; intro v' w3 hr3 hg3 hb4)
        go_roundw
        case rel => exact ⟨k + 1, by omega, Or.inl (by omega), by go_num, by rw [show k + 1 - 1 = k by omega, HQO.out]; exact hr3, hbel.trans hb4⟩
        case measure => simp [intOf]; omega
    · skip
      have hke : k - 1 = xs.length - 1 := by omega
      have HR := HR.out
      rw [hke] at HR
      have HR := Lib.hid HR
      clear hke
      go_wp2
      go_ret2
      rw [ooRes_0 HV.out HLM.out]
      exact ⟨⟨_, rfl, HR.out⟩, hbel⟩
end Go.Proofs.Ytcjalooaikfkbaa
