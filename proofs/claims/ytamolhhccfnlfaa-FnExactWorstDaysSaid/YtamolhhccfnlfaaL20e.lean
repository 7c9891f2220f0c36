/- Chapter 20: the worst days. -/
import Derived.Test.YtamolhhccfnlfaaL20c
namespace Go.Proofs.Ytamolhhccfnlfaa
open Go.RowKit
set_option maxHeartbeats 400000
set_option maxRecDepth 100000
def dif (x : SVerified) : Int := max (x.Told - x.Seen) (-(x.Told - x.Seen))
def wMx (xs : List SVerified) (k : Nat) : Int := ((xs.take k).map dif).foldl max 0
theorem wMx_step {xs : List SVerified} {k : Nat} (hk : k < xs.length) : wMx xs (k + 1) = max (wMx xs k) (dif xs[k]) := by
  unfold wMx; rw [List.take_succ_eq_append_getElem hk, List.map_append, List.foldl_append]; rfl
theorem wMx_bd {xs : List SVerified} (h : ∀ k (hk : k < xs.length), okVerified xs[k] = true) : ∀ k, k ≤ xs.length → 0 ≤ wMx xs k ∧ wMx xs k ≤ 4
  | 0, _ => by simp [wMx]
  | k + 1, hk => by
    have ih := wMx_bd h k (by omega)
    have hb := okVerified_bd (h k (by omega))
    rw [wMx_step (by omega)]
    unfold dif
    omega
theorem if_max (a b : Int) : (if a < b then b else a) = max a b := by split <;> omega
def qW (m : Int) (x : SVerified) : Bool := dif x == m
def wRes (xs : List SVerified) : List Int × Int × Int :=
  if vlVerified xs then (if xs.length = 0 then ([], 0, 3) else (daysTo (qW (wMx xs xs.length)) xs xs.length, wMx xs xs.length, 0)) else ([], 0, 1)
theorem wRes_1 {xs : List SVerified} (h : vlVerified xs = false) : wRes xs = ([], 0, 1) := by simp [wRes, h]
theorem wRes_3 {xs : List SVerified} (h : vlVerified xs = true) (h3 : xs.length = 0) : wRes xs = ([], 0, 3) := by simp only [wRes, h, h3, if_true]
theorem wRes_0 {xs : List SVerified} (h : vlVerified xs = true) (h3 : ¬ xs.length = 0) : wRes xs = (daysTo (qW (wMx xs xs.length)) xs xs.length, wMx xs xs.length, 0) := by simp only [wRes, h, h3, if_true, if_false]
theorem wRes_len (xs : List SVerified) : (wRes xs).1.length ≤ xs.length := by
  unfold wRes
  split
  · split
    · simp
    · exact daysTo_len _ xs _
  · simp
theorem daysWhere_WorstDays (xs : List SVerified) (b c : Nat) (level : Int) (cap : Value) (q : SVerified → Bool) (w : World) (A : Arr SVerified.cells 3 w b xs) (hn : xs.length ≤ 1048576)
    (HQ : Hid (∀ k (_ : k < xs.length) W', Below w.heap.size w W' → Calls Try.prog 100 #[.agg #[.int .i64 xs[k].Day, .int .i64 xs[k].Told, .int .i64 xs[k].Seen], cap] W' fun e w' => e = .returned (.bool (q xs[k])) ∧ Below W'.heap.size W' w')) :
    Calls Try.prog 64 #[.slice (some ⟨b, 0, none⟩) xs.length c, .int .i64 level, .func (.func 100) #[] #[cap]] w fun e w' =>
      (∃ v, e = .returned (.tuple #[v, .int .i64 (daysRes q level xs).2]) ∧ Row intc 1 2 w' w.heap.size v (daysRes q level xs).1) ∧ Below w.heap.size w w' := by
  have HA := Lib.hid A
  clear A
  cases hv : vlVerified xs
  · rw [daysRes_1 hv]
    have HV := Lib.hid hv
    clear hv
    go_enter Try.func64, Try.ntmps64
    go_wp2_with (go_at_call 80; refine (Calls.boolIs HV.out (ValidVerified_any xs b c _ HA.out hn)).mono ?_; rintro e w1 ⟨rfl, hb1⟩)
    go_ret2
    exact ⟨⟨_, rfl, Row.nil⟩, hb1⟩
  · have HV := Lib.hid hv
    clear hv
    cases hl : inr 1 5 level
    · rw [daysRes_2 HV.out hl]
      have HL := Lib.hid hl
      clear hl
      go_enter Try.func64, Try.ntmps64
      go_wp2_with (first | (go_at_call 80; refine (Calls.boolIs HV.out (ValidVerified_any xs b c _ HA.out hn)).mono ?_; rintro e w1 ⟨rfl, hb1⟩) | (go_at_call 108; refine (Calls.boolIs HL.out (levelOk_any _ _)).mono ?_; rintro e w' ⟨rfl, rfl⟩))
      go_ret2
      exact ⟨⟨_, rfl, Row.nil⟩, hb1⟩
    · rw [daysRes_0 HV.out hl]
      have HL := Lib.hid hl
      clear hl
      go_enter Try.func64, Try.ntmps64
      go_wp2_with (first | (go_at_call 80; refine (Calls.boolIs HV.out (ValidVerified_any xs b c _ HA.out hn)).mono ?_; rintro e w1 ⟨rfl, hb1⟩) | (go_at_call 108; refine (Calls.boolIs HL.out (levelOk_any _ _)).mono ?_; rintro e w' ⟨rfl, rfl⟩))
      go_loopw [8, 21] (fun v i wr => ∃ k : Nat, k ≤ xs.length ∧ i = .int .i64 k ∧ Row intc 1 2 wr w.heap.size v (daysTo q xs k) ∧ Below w.heap.size w wr) (fun _ i wr => xs.length - (intOf i).toNat)
      case atStart => exact ⟨0, by omega, rfl, Row.nil, hb1⟩
      case round =>
        obtain ⟨k, hk, rfl, hrow, hbel⟩ := hrel
        have HR := Lib.hid hrow
        clear hrow
        by_cases hlt : k < xs.length
        · obtain ⟨e0, e1, e2⟩ := SVerified.elem (HA.out.below hbel) hlt
          go_wp2_with fail
          refine calls_box_out ?_
          intro W hbw B
          have hbt := Bel.trans hbel hbw
          clear e0 e1 e2
          cases hq : q xs[k]
          · have HP := Lib.hid hq
            clear hq
            refine (Calls.boolIs HP.out (HQ.out k hlt W hbt)).mono ?_
            rintro e w2 ⟨rfl, hb2⟩
            clear B
            go_wp2
            go_roundw
            case rel => exact ⟨k + 1, by omega, by go_num, by rw [daysTo_no hlt HP.out]; exact (HR.out.below hbw).below hb2, Bel.trans hbt hb2⟩
            case measure => simp [intOf]; omega
          · have HP := Lib.hid hq
            clear hq
            refine (Calls.boolIs HP.out (HQ.out k hlt W hbt)).mono ?_
            rintro e w2 ⟨rfl, hb2⟩
            have HR2 := Lib.hid ((HR.out.below hbw).below hb2)
            have hle := daysTo_len q xs k
            have B2 := B.below hb2
            have c0 : w2.cell? ⟨wr.heap.size, 0, none⟩ = some (.int .i64 xs[k].Day) := B2.cell 0
            have c1 : w2.cell? ⟨wr.heap.size, 1, none⟩ = some (.int .i64 xs[k].Told) := B2.cell 1
            have c2 : w2.cell? ⟨wr.heap.size, 2, none⟩ = some (.int .i64 xs[k].Seen) := B2.cell 2
            have hb3 := Bel.trans hbt hb2
            have hsz := hb3.size
            clear B B2 hb2
            go_wp2_with (at_builtin; refine wpList_pushI rfl _ _ 24 rfl w.heap.size 2 Try.underlying24 (by kernel_rfl) u8 (daysTo q xs k) xs[k].Day rfl HR2.out 1 rfl (by omega) hsz ?_; intro v' w3 hr3 hg3 hb4)
            go_roundw
            case rel => exact ⟨k + 1, by omega, by go_num, by rw [daysTo_yes hlt HP.out]; exact hr3, hb3.trans hb4⟩
            case measure => simp [intOf]; omega
        · obtain rfl : k = xs.length := by omega
          go_wp2
          go_ret2
          exact ⟨⟨_, rfl, HR.out⟩, hbel⟩
theorem wdc_any (x : SVerified) (m : Int) (g : Nat) (w : World) (h : w.cell? ⟨g, 0, none⟩ = some (.int .i64 m)) (hx : okVerified x = true) :
    Calls Try.prog 100 #[.agg #[.int .i64 x.Day, .int .i64 x.Told, .int .i64 x.Seen], .pointer (some ⟨g, 0, none⟩)] w fun e w' => e = .returned (.bool (qW m x)) ∧ Below w.heap.size w w' := by
  have hl := lt_of_cell h
  have hbd := okVerified_bd hx
  clear hx
  go_enter Try.func100, Try.ntmps100
  go_wp2_with fail
  refine wp_box_out ?_
  intro W hbw B
  have r0 := Past.cell ((hbw.cell (p := ⟨g, 0, none⟩) hl).trans h) (Nat.lt_of_lt_of_le hl hbw.size)
  have p0 := Past.box B (j := 0) (v := .int .i64 x.Day) rfl
  have p1 := Past.box B (j := 1) (v := .int .i64 x.Told) rfl
  have p2 := Past.box B (j := 2) (v := .int .i64 x.Seen) rfl
  clear B h
  refine wp_region_past (by kernel_rfl) (by kernel_rfl) ?_
  repeat (go_big_quiet_step ((go_at_call 85; exact Past.same _ (abs_any _ _ (by omega) (by omega)))))
  refine wpQuiet_nil ?_
  intro W1 hw'
  obtain ⟨⟨W_, hb1⟩, hw''⟩ := hw'
  subst hw''
  go_wp2
  go_ret
  exact ⟨rfl, Bel.trans hbw hb1⟩
theorem WorstDays_any (xs : List SVerified) (b c : Nat) (w : World) (A : Arr SVerified.cells 3 w b xs) (hn : xs.length ≤ 1048576) :
    Calls Try.prog 42 #[.slice (some ⟨b, 0, none⟩) xs.length c] w fun e w' =>
      (∃ v, e = .returned (.tuple #[v, .int .i64 (wRes xs).2.1, .int .i64 (wRes xs).2.2]) ∧ Row intc 1 2 w' w.heap.size v (wRes xs).1) ∧ Below w.heap.size w w' := by
  have HA := Lib.hid A
  clear A
  cases hv : vlVerified xs
  · rw [wRes_1 hv]
    have HV := Lib.hid hv
    clear hv
    go_enter Try.func42, Try.ntmps42
    go_wp2_with (go_at_call 80; refine (Calls.boolIs HV.out (ValidVerified_any xs b c _ HA.out hn)).mono ?_; rintro e w1 ⟨rfl, hb1⟩)
    go_ret3
    exact ⟨⟨_, rfl, Row.nil⟩, hb1⟩
  · have HV := Lib.hid hv
    clear hv
    by_cases hz : xs.length = 0
    · rw [wRes_3 HV.out hz]
      have hz1 : ((xs.length : Int) == 0) = true := beq_iff_eq.mpr (by omega)
      clear hz
      go_enter Try.func42, Try.ntmps42
      go_wp2_with (go_at_call 80; refine (Calls.boolIs HV.out (ValidVerified_any xs b c _ HA.out hn)).mono ?_; rintro e w1 ⟨rfl, hb1⟩)
      go_ret3
      exact ⟨⟨_, rfl, Row.nil⟩, hb1⟩
    · rw [wRes_0 HV.out hz]
      have hz1 : ((xs.length : Int) == 0) = false := beq_eq_false_iff_ne.mpr (by omega)
      have hmx := wMx_bd (vlV_ok HV.out)
      have HM := Lib.hid hmx
      clear hz hmx
      go_enter Try.func42, Try.ntmps42
      go_wp2_with (go_at_call 80; refine (Calls.boolIs HV.out (ValidVerified_any xs b c _ HA.out hn)).mono ?_; rintro e w1 ⟨rfl, hb1⟩)
      have hs1 := hb1.size
      go_loopw [20] (fun i wr => ∃ k : Nat, k ≤ xs.length ∧ i = .int .i64 k ∧ Box 2 wr w1.heap.size #[.int .i64 (wMx xs k)] ∧ Below w.heap.size w wr) (fun i wr => xs.length - (intOf i).toNat)
      case atStart => exact ⟨0, by omega, rfl, Box.new _ _ _, (by repeat (first | (with_reducible assumption) | (with_reducible exact Below.refl _ _) | (with_reducible refine Bel.alloc ?_ _) | (with_reducible refine Below.drew ?_) | (with_reducible refine Bel.drewN ?_ _) | (with_reducible refine Bel.setCell ?_ (by (try simp) <;> omega) _) | (with_reducible refine Bel.trans ?_ (by assumption))))⟩
      case round =>
        obtain ⟨k, hk, rfl, B, hbel⟩ := hrel
        have hm := HM.out k hk
        by_cases hlt : k < xs.length
        · obtain ⟨e0, e1, e2⟩ := SVerified.elem (HA.out.below hbel) hlt
          have hbd := okVerified_bd (vlV_ok HV.out k hlt)
          have HB := Lib.hid B
          clear B
          go_wp2_with fail
          refine wp_box_out ?_
          intro W hbw BX
          have B := HB.out.below hbw
          have hbt := Bel.trans hbel hbw
          have q0 := Past.box B (j := 0) (v := .int .i64 (wMx xs k)) rfl
          have p0 := Past.box BX (j := 0) (v := .int .i64 xs[k].Day) rfl
          have p1 := Past.box BX (j := 1) (v := .int .i64 xs[k].Told) rfl
          have p2 := Past.box BX (j := 2) (v := .int .i64 xs[k].Seen) rfl
          clear BX e0 e1 e2
          refine wp_region_past_tail 8 (by kernel_rfl) (by kernel_rfl) ?_
          simp only [List.take_succ_cons, List.take_zero, List.drop_succ_cons, List.drop_zero]
          repeat (go_big_quiet_step ((go_at_call 85; exact Past.same _ (abs_any _ _ (by omega) (by omega)))))
          refine wpQuiet_nil ?_
          intro W1 hw'
          obtain ⟨⟨W_, hb2⟩, hw''⟩ := hw'
          subst hw''
          have B1 := B.below hb2
          have c0 : W1.cell? ⟨w1.heap.size, 0, none⟩ = some (.int .i64 (wMx xs k)) := B1.cell 0
          have z0 := B1.free 0
          have hbt := Bel.trans hbt hb2
          have HB1 := Lib.hid B1
          clear q0 p0 p1 p2 B B1 hb2
          go_wp2_with fail
          go_roundw
          case rel => exact ⟨k + 1, by omega, by go_num, by rw [wMx_step hlt, ← if_max (wMx xs k) (dif xs[k])]; exact HB1.out.set 0 _, Bel.setCell hbt (by simp <;> omega) _⟩
          case measure => simp [intOf]; omega
        · obtain rfl : k = xs.length := by omega
          have HB := Lib.hid B
          clear B
          go_wp2_with fail
          have hD := daysWhere_WorstDays xs b c 1 (.pointer (some ⟨w1.heap.size, 0, none⟩)) (qW (wMx xs xs.length)) wr (HA.out.below hbel) hn (fun k hk W' hW => wdc_any xs[k] (wMx xs xs.length) _ W' ((HB.out.below hW).cell 0) (vlV_ok HV.out k hk))
          rw [daysRes_0 HV.out (show inr 1 5 1 = true from rfl)] at hD
          refine hD.mono ?_
          rintro e w2 ⟨⟨v, rfl, hr⟩, hb2⟩
          have c0 := Past.box (HB.out.below hb2) (j := 0) (v := .int .i64 (wMx xs xs.length)) rfl
          clear hD
          go_wp2_with fail
          refine wp_region_past (by kernel_rfl) (by kernel_rfl) ?_
          repeat (go_big_quiet_step (fail))
          refine wpQuiet_nil ?_
          intro W1 hw'
          obtain ⟨⟨W_, hb3⟩, hw''⟩ := hw'
          subst hw''
          go_wp2
          go_ret3
          exact ⟨⟨_, rfl, (hr.lower hbel.size).below hb3⟩, Bel.trans (Bel.trans hbel hb2) hb3⟩
theorem sWorstDays_any (xs : List SVerified) (b c : Nat) (w : World) (A : Arr SVerified.cells 3 w b xs) (hn : xs.length ≤ 1048576) :
    Calls Try.prog 41 #[.slice (some ⟨b, 0, none⟩) xs.length c] w fun e w' =>
      (∃ v, e = .returned (.tuple #[v, .int .i64 (wRes xs).2.1, .int .i64 (wRes xs).2.2]) ∧ Row intc 1 2 w' w.heap.size v (wRes xs).1) ∧ Below w.heap.size w w' := by
  have HA := Lib.hid A
  clear A
  cases hv : vlVerified xs
  · rw [wRes_1 hv]
    have HV := Lib.hid hv
    clear hv
    go_enter Try.func41, Try.ntmps41
    go_wp2_with (go_at_call 61; refine (Calls.boolIs HV.out (l20Ok_any xs b c _ HA.out hn)).mono ?_; rintro e w1 ⟨rfl, hb1⟩)
    go_ret3
    exact ⟨⟨_, rfl, Row.nil⟩, hb1⟩
  · have HV := Lib.hid hv
    clear hv
    by_cases hz : xs.length = 0
    · rw [wRes_3 HV.out hz]
      have hz1 : ((xs.length : Int) == 0) = true := beq_iff_eq.mpr (by omega)
      clear hz
      go_enter Try.func41, Try.ntmps41
      go_wp2_with (go_at_call 61; refine (Calls.boolIs HV.out (l20Ok_any xs b c _ HA.out hn)).mono ?_; rintro e w1 ⟨rfl, hb1⟩)
      go_ret3
      exact ⟨⟨_, rfl, Row.nil⟩, hb1⟩
    · rw [wRes_0 HV.out hz]
      have hz1 : ((xs.length : Int) == 0) = false := beq_eq_false_iff_ne.mpr (by omega)
      have hmx := wMx_bd (vlV_ok HV.out)
      have HM := Lib.hid hmx
      clear hz hmx
      go_enter Try.func41, Try.ntmps41
      go_wp2_with (go_at_call 61; refine (Calls.boolIs HV.out (l20Ok_any xs b c _ HA.out hn)).mono ?_; rintro e w1 ⟨rfl, hb1⟩)
      go_loopw [5, 6] (fun m i wr => ∃ k : Nat, k ≤ xs.length ∧ i = .int .i64 k ∧ m = .int .i64 (wMx xs k) ∧ Below w.heap.size w wr) (fun _ i wr => xs.length - (intOf i).toNat)
      case atStart => exact ⟨0, by omega, rfl, rfl, hb1⟩
      case round =>
        obtain ⟨k, hk, rfl, rfl, hbel⟩ := hrel
        have hm := HM.out k hk
        by_cases hlt : k < xs.length
        · obtain ⟨p0, p1, p2⟩ := SVerified.elems (HA.out.below hbel) hlt
          have hbd := okVerified_bd (vlV_ok HV.out k hlt)
          go_wp2_with fail
          refine wp_region_past (by kernel_rfl) (by kernel_rfl) ?_
          repeat (go_big_quiet_step ((first | (go_at_call 99; exact Past.same _ (l04Abs_any _ _ (by omega) (by omega))) | (go_at_call 98; exact Past.same _ (l00Max_any _ _ _)))))
          refine wpQuiet_nil ?_
          intro W1 hw'
          obtain ⟨⟨W_, hb2⟩, hw''⟩ := hw'
          subst hw''
          clear p0 p1 p2
          go_wp2
          go_roundw
          case rel => exact ⟨k + 1, by omega, by go_num, by rw [wMx_step hlt]; rfl, Bel.trans hbel hb2⟩
          case measure => simp [intOf]; omega
        · obtain rfl : k = xs.length := by omega
          obtain ⟨wo, rfl⟩ : ∃ wo : World, wo = wr := ⟨_, rfl⟩
          have hbo := hbel
          go_wp2_with fail
          go_loopw [7, 8] (fun v i wr => ∃ k : Nat, k ≤ xs.length ∧ i = .int .i64 k ∧ Row intc 1 2 wr w.heap.size v (daysTo (qW (wMx xs xs.length)) xs k) ∧ Below w.heap.size w wr) (fun _ i wr => xs.length - (intOf i).toNat)
          case atStart => exact ⟨0, by omega, rfl, Row.empty hbo.size, Bel.alloc hbo _⟩
          case round =>
            obtain ⟨j, hj, rfl, hrow, hbel⟩ := hrel
            have HR := Lib.hid hrow
            clear hrow
            by_cases hlt : j < xs.length
            · obtain ⟨p0, p1, p2⟩ := SVerified.elems (HA.out.below hbel) hlt
              have hbd := okVerified_bd (vlV_ok HV.out j hlt)
              have hle := daysTo_len (qW (wMx xs xs.length)) xs j
              cases hq : (max (xs[j].Told - xs[j].Seen) (-(xs[j].Told - xs[j].Seen)) == wMx xs xs.length)
              all_goals
                have HQ := Lib.hid hq
                clear hq
                go_wp2_with fail
                refine wp_region_past (by kernel_rfl) (by kernel_rfl) ?_
                repeat (go_big_quiet_step ((go_at_call 99; exact Past.same _ (l04Abs_any _ _ (by omega) (by omega)))))
                refine wpQuiet_nil ?_
                intro W1 hw'
                obtain ⟨⟨W_, hb2⟩, hw''⟩ := hw'
                subst hw''
                clear p0 p1 p2
                have hbel := Bel.trans hbel hb2
                have hq := HQ.out
                obtain ⟨e0, e1, e2⟩ := SVerified.elem (HA.out.below hbel) hlt
                have HR := Lib.hid (HR.out.below hb2)
                have hsz := hbel.size
              · go_wp2
                go_roundw
                case rel => exact ⟨j + 1, by omega, by go_num, by rw [daysTo_no hlt HQ.out]; exact HR.out, hbel⟩
                case measure => simp [intOf]; omega
              · go_wp2_with (at_builtin; refine wpList_pushI rfl _ _ 24 rfl w.heap.size 2 Try.underlying24 (by kernel_rfl) u7 (daysTo (qW (wMx xs xs.length)) xs j) xs[j].Day rfl HR.out 1 rfl (by omega) hsz ?_; intro v' w3 hr3 hg3 hb4)
                go_roundw
                case rel => exact ⟨j + 1, by omega, by go_num, by rw [daysTo_yes hlt HQ.out]; exact hr3, hbel.trans hb4⟩
                case measure => simp [intOf]; omega
            · obtain rfl : j = xs.length := by omega
              go_wp2
              go_ret3
              exact ⟨⟨_, rfl, HR.out⟩, hbel⟩
end Go.Proofs.Ytamolhhccfnlfaa
