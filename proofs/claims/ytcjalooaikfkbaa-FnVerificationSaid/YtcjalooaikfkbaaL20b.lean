/- Chapter 20: the days with a property. -/
import Derived.Test.YtcjalooaikfkbaaL20
import Derived.Test.YtcjalooaikfkbaaApp
namespace Go.Proofs.Ytcjalooaikfkbaa
set_option linter.unusedSimpArgs false
set_option linter.unusedVariables false
open Go.RowKit
set_option maxHeartbeats 400000
def daysTo (q : SVerified → Bool) (xs : List SVerified) (k : Nat) : List Int := ((xs.take k).filter q).map (·.Day)
theorem daysTo_yes {q : SVerified → Bool} {xs : List SVerified} {k : Nat} (hk : k < xs.length) (h : q xs[k] = true) : daysTo q xs (k + 1) = daysTo q xs k ++ [xs[k].Day] := by
  unfold daysTo; rw [List.take_succ_eq_append_getElem hk, List.filter_append, List.map_append]; simp [h]
theorem daysTo_no {q : SVerified → Bool} {xs : List SVerified} {k : Nat} (hk : k < xs.length) (h : q xs[k] = false) : daysTo q xs (k + 1) = daysTo q xs k := by
  unfold daysTo; rw [List.take_succ_eq_append_getElem hk, List.filter_append, List.map_append]; simp [h]
theorem daysTo_len (q : SVerified → Bool) (xs : List SVerified) (k : Nat) : (daysTo q xs k).length ≤ k := by
  unfold daysTo
  rw [List.length_map]
  have h1 := List.length_filter_le q (xs.take k)
  have h2 := List.length_take_le k xs
  omega
def daysRes (q : SVerified → Bool) (level : Int) (xs : List SVerified) : List Int × Int := if vlVerified xs then (if inr 1 5 level then (daysTo q xs xs.length, 0) else ([], 2)) else ([], 1)
theorem daysRes_1 {q : SVerified → Bool} {level : Int} {xs : List SVerified} (h : vlVerified xs = false) : daysRes q level xs = ([], 1) := by simp [daysRes, h]
theorem daysRes_2 {q : SVerified → Bool} {level : Int} {xs : List SVerified} (h : vlVerified xs = true) (h2 : inr 1 5 level = false) : daysRes q level xs = ([], 2) := by simp [daysRes, h, h2]
theorem daysRes_0 {q : SVerified → Bool} {level : Int} {xs : List SVerified} (h : vlVerified xs = true) (h2 : inr 1 5 level = true) : daysRes q level xs = (daysTo q xs xs.length, 0) := by simp [daysRes, h, h2]
theorem daysRes_len (q : SVerified → Bool) (level : Int) (xs : List SVerified) : (daysRes q level xs).1.length ≤ xs.length := by
  unfold daysRes
  split
  · split
    · exact daysTo_len q xs _
    · simp
  · simp
def qFalse (least : Int) (x : SVerified) : Bool := decide (least ≤ x.Told) && decide (x.Seen < least)
def qMissed (least : Int) (x : SVerified) : Bool := decide (least ≤ x.Seen) && decide (x.Told < least)
theorem daysWhere_FalseHigh (xs : List SVerified) (b c : Nat) (level : Int) (cap : Value) (q : SVerified → Bool) (w : World) (A : Arr SVerified.cells 3 w b xs) (hn : xs.length ≤ 1048576)
    (HQ : Hid (∀ k (_ : k < xs.length) W', Below w.heap.size w W' → Calls Try.prog 67 #[.agg #[.int .i64 xs[k].Day, .int .i64 xs[k].Told, .int .i64 xs[k].Seen], cap] W' fun e w' => e = .returned (.bool (q xs[k])) ∧ Below W'.heap.size W' w')) :
    Calls Try.prog 65 #[.slice (some ⟨b, 0, none⟩) xs.length c, .int .i64 level, .func (.func 67) #[] #[cap]] w fun e w' =>
      (∃ v, e = .returned (.tuple #[v, .int .i64 (daysRes q level xs).2]) ∧ Row intc 1 2 w' w.heap.size v (daysRes q level xs).1) ∧ Below w.heap.size w w' := by
  have HA := Lib.hid A
  clear A
  cases hv : vlVerified xs
  · rw [daysRes_1 hv]
    have HV := Lib.hid hv
    clear hv
    go_enter Try.func65, Try.ntmps65
    go_wp2_with (go_at_call 60; refine (Calls.boolIs HV.out (ValidVerified_any xs b c _ HA.out hn)).mono ?_; rintro e w1 ⟨rfl, hb1⟩)
    go_ret2
    exact ⟨⟨_, rfl, Row.nil⟩, hb1⟩
  · have HV := Lib.hid hv
    clear hv
    cases hl : inr 1 5 level
    · rw [daysRes_2 HV.out hl]
      have HL := Lib.hid hl
      clear hl
      go_enter Try.func65, Try.ntmps65
      go_wp2_with (first | (go_at_call 60; refine (Calls.boolIs HV.out (ValidVerified_any xs b c _ HA.out hn)).mono ?_; rintro e w1 ⟨rfl, hb1⟩) | (go_at_call 94; refine (Calls.boolIs HL.out (levelOk_any _ _)).mono ?_; rintro e w' ⟨rfl, rfl⟩))
      go_ret2
      exact ⟨⟨_, rfl, Row.nil⟩, hb1⟩
    · rw [daysRes_0 HV.out hl]
      have HL := Lib.hid hl
      clear hl
      go_enter Try.func65, Try.ntmps65
      go_wp2_with (first | (go_at_call 60; refine (Calls.boolIs HV.out (ValidVerified_any xs b c _ HA.out hn)).mono ?_; rintro e w1 ⟨rfl, hb1⟩) | (go_at_call 94; refine (Calls.boolIs HL.out (levelOk_any _ _)).mono ?_; rintro e w' ⟨rfl, rfl⟩))
      go_loopw [8, 21] (fun v i wr => ∃ k : Nat, k ≤ xs.length ∧ i = .int .i64 k ∧ Row intc 1 2 wr w.heap.size v (daysTo q xs k) ∧ Below w.heap.size w wr) (fun _ i wr => xs.length - (intOf i).toNat)
      case atStart => exact ⟨0, by omega, rfl, Row.nil, hb1⟩
      case round =>
        obtain ⟨k, hk, rfl, hrow, hbel⟩ := hrel
        have HR := Lib.hid hrow
        clear hrow
        by_cases hlt : k < xs.length
        · obtain ⟨e0, e1, e2⟩ := SVerified.elem (HA.out.below hbel) hlt
          go_wp2_with fail
          refine calls_box_out ?_
          intro W hbw B
          have hbt := Bel.trans hbel hbw
          clear e0 e1 e2
          cases hq : q xs[k]
          · have HP := Lib.hid hq
            clear hq
            refine (Calls.boolIs HP.out (HQ.out k hlt W hbt)).mono ?_
            rintro e w2 ⟨rfl, hb2⟩
            clear B
            go_wp2
            go_roundw
            case rel => exact ⟨k + 1, by omega, by go_num, by rw [daysTo_no hlt HP.out]; exact (HR.out.below hbw).below hb2, Bel.trans hbt hb2⟩
            case measure => simp [intOf]; omega
          · have HP := Lib.hid hq
            clear hq
            refine (Calls.boolIs HP.out (HQ.out k hlt W hbt)).mono ?_
            rintro e w2 ⟨rfl, hb2⟩
            have HR2 := Lib.hid ((HR.out.below hbw).below hb2)
            have hle := daysTo_len q xs k
            have B2 := B.below hb2
            have c0 : w2.cell? ⟨wr.heap.size, 0, none⟩ = some (.int .i64 xs[k].Day) := B2.cell 0
            have c1 : w2.cell? ⟨wr.heap.size, 1, none⟩ = some (.int .i64 xs[k].Told) := B2.cell 1
            have c2 : w2.cell? ⟨wr.heap.size, 2, none⟩ = some (.int .i64 xs[k].Seen) := B2.cell 2
            have hb3 := Bel.trans hbt hb2
            have hsz := hb3.size
            clear B B2 hb2
            go_wp2_with (at_builtin; refine wpList_pushI rfl _ _ 38 rfl w.heap.size 2 Try.underlying38 (by kernel_rfl) u8 (daysTo q xs k) xs[k].Day rfl HR2.out 1 rfl (by omega) hsz ?_; intro v' w3 hr3 hg3 hb4)
            go_roundw
            case rel => exact ⟨k + 1, by omega, by go_num, by rw [daysTo_yes hlt HP.out]; exact hr3, hb3.trans hb4⟩
            case measure => simp [intOf]; omega
        · obtain rfl : k = xs.length := by omega
          go_wp2
          go_ret2
          exact ⟨⟨_, rfl, HR.out⟩, hbel⟩
theorem FalseHighc_any (x : SVerified) (least : Int) (g : Nat) (w : World) (h : w.cell? ⟨g, 0, none⟩ = some (.int .i64 least)) :
    Calls Try.prog 67 #[.agg #[.int .i64 x.Day, .int .i64 x.Told, .int .i64 x.Seen], .pointer (some ⟨g, 0, none⟩)] w fun e w' => e = .returned (.bool (qFalse least x)) ∧ Below w.heap.size w w' := by
  have hl := lt_of_cell h
  go_enter Try.func67, Try.ntmps67
  go_wp2
  all_goals
    go_ret
    exact ⟨ret_bool (by simp [qFalse, *] <;> omega), (by repeat (first | (with_reducible assumption) | (with_reducible exact Below.refl _ _) | (with_reducible refine Bel.alloc ?_ _) | (with_reducible refine Below.drew ?_) | (with_reducible refine Bel.drewN ?_ _) | (with_reducible refine Bel.setCell ?_ (by (try simp) <;> omega) _) | (with_reducible refine Bel.trans ?_ (by assumption))))⟩
theorem FalseHigh_any (xs : List SVerified) (b c : Nat) (least : Int) (w : World) (A : Arr SVerified.cells 3 w b xs) (hn : xs.length ≤ 1048576) :
    Calls Try.prog 27 #[.slice (some ⟨b, 0, none⟩) xs.length c, .int .i64 least] w fun e w' =>
      (∃ v, e = .returned (.tuple #[v, .int .i64 (daysRes (qFalse least) least xs).2]) ∧ Row intc 1 2 w' w.heap.size v (daysRes (qFalse least) least xs).1) ∧ Below w.heap.size w w' := by
  have HA := Lib.hid A
  clear A
  go_enter Try.func27, Try.ntmps27
  go_wp2_with fail
  refine calls_box_out ?_
  intro W hbw B
  refine (daysWhere_FalseHigh xs b c least _ (qFalse least) W (HA.out.below hbw) hn (fun k hk W' hW => FalseHighc_any xs[k] least _ W' ((B.below hW).cell 0))).mono ?_
  rintro e w2 ⟨⟨v, rfl, hr⟩, hb2⟩
  go_wp2
  go_ret2
  exact ⟨⟨_, rfl, hr.lower hbw.size⟩, Bel.trans hbw hb2⟩
theorem daysWhere_MissedHigh (xs : List SVerified) (b c : Nat) (level : Int) (cap : Value) (q : SVerified → Bool) (w : World) (A : Arr SVerified.cells 3 w b xs) (hn : xs.length ≤ 1048576)
    (HQ : Hid (∀ k (_ : k < xs.length) W', Below w.heap.size w W' → Calls Try.prog 66 #[.agg #[.int .i64 xs[k].Day, .int .i64 xs[k].Told, .int .i64 xs[k].Seen], cap] W' fun e w' => e = .returned (.bool (q xs[k])) ∧ Below W'.heap.size W' w')) :
    Calls Try.prog 65 #[.slice (some ⟨b, 0, none⟩) xs.length c, .int .i64 level, .func (.func 66) #[] #[cap]] w fun e w' =>
      (∃ v, e = .returned (.tuple #[v, .int .i64 (daysRes q level xs).2]) ∧ Row intc 1 2 w' w.heap.size v (daysRes q level xs).1) ∧ Below w.heap.size w w' := by
  have HA := Lib.hid A
  clear A
  cases hv : vlVerified xs
  · rw [daysRes_1 hv]
    have HV := Lib.hid hv
    clear hv
    go_enter Try.func65, Try.ntmps65
    go_wp2_with (go_at_call 60; refine (Calls.boolIs HV.out (ValidVerified_any xs b c _ HA.out hn)).mono ?_; rintro e w1 ⟨rfl, hb1⟩)
    go_ret2
    exact ⟨⟨_, rfl, Row.nil⟩, hb1⟩
  · have HV := Lib.hid hv
    clear hv
    cases hl : inr 1 5 level
    · rw [daysRes_2 HV.out hl]
      have HL := Lib.hid hl
      clear hl
      go_enter Try.func65, Try.ntmps65
      go_wp2_with (first | (go_at_call 60; refine (Calls.boolIs HV.out (ValidVerified_any xs b c _ HA.out hn)).mono ?_; rintro e w1 ⟨rfl, hb1⟩) | (go_at_call 94; refine (Calls.boolIs HL.out (levelOk_any _ _)).mono ?_; rintro e w' ⟨rfl, rfl⟩))
      go_ret2
      exact ⟨⟨_, rfl, Row.nil⟩, hb1⟩
    · rw [daysRes_0 HV.out hl]
      have HL := Lib.hid hl
      clear hl
      go_enter Try.func65, Try.ntmps65
      go_wp2_with (first | (go_at_call 60; refine (Calls.boolIs HV.out (ValidVerified_any xs b c _ HA.out hn)).mono ?_; rintro e w1 ⟨rfl, hb1⟩) | (go_at_call 94; refine (Calls.boolIs HL.out (levelOk_any _ _)).mono ?_; rintro e w' ⟨rfl, rfl⟩))
      go_loopw [8, 21] (fun v i wr => ∃ k : Nat, k ≤ xs.length ∧ i = .int .i64 k ∧ Row intc 1 2 wr w.heap.size v (daysTo q xs k) ∧ Below w.heap.size w wr) (fun _ i wr => xs.length - (intOf i).toNat)
      case atStart => exact ⟨0, by omega, rfl, Row.nil, hb1⟩
      case round =>
        obtain ⟨k, hk, rfl, hrow, hbel⟩ := hrel
        have HR := Lib.hid hrow
        clear hrow
        by_cases hlt : k < xs.length
        · obtain ⟨e0, e1, e2⟩ := SVerified.elem (HA.out.below hbel) hlt
          go_wp2_with fail
          refine calls_box_out ?_
          intro W hbw B
          have hbt := Bel.trans hbel hbw
          clear e0 e1 e2
          cases hq : q xs[k]
          · have HP := Lib.hid hq
            clear hq
            refine (Calls.boolIs HP.out (HQ.out k hlt W hbt)).mono ?_
            rintro e w2 ⟨rfl, hb2⟩
            clear B
            go_wp2
            go_roundw
            case rel => exact ⟨k + 1, by omega, by go_num, by rw [daysTo_no hlt HP.out]; exact (HR.out.below hbw).below hb2, Bel.trans hbt hb2⟩
            case measure => simp [intOf]; omega
          · have HP := Lib.hid hq
            clear hq
            refine (Calls.boolIs HP.out (HQ.out k hlt W hbt)).mono ?_
            rintro e w2 ⟨rfl, hb2⟩
            have HR2 := Lib.hid ((HR.out.below hbw).below hb2)
            have hle := daysTo_len q xs k
            have B2 := B.below hb2
            have c0 : w2.cell? ⟨wr.heap.size, 0, none⟩ = some (.int .i64 xs[k].Day) := B2.cell 0
            have c1 : w2.cell? ⟨wr.heap.size, 1, none⟩ = some (.int .i64 xs[k].Told) := B2.cell 1
            have c2 : w2.cell? ⟨wr.heap.size, 2, none⟩ = some (.int .i64 xs[k].Seen) := B2.cell 2
            have hb3 := Bel.trans hbt hb2
            have hsz := hb3.size
            clear B B2 hb2
            go_wp2_with (at_builtin; refine wpList_pushI rfl _ _ 38 rfl w.heap.size 2 Try.underlying38 (by kernel_rfl) u8 (daysTo q xs k) xs[k].Day rfl HR2.out 1 rfl (by omega) hsz ?_; intro v' w3 hr3 hg3 hb4)
            go_roundw
            case rel => exact ⟨k + 1, by omega, by go_num, by rw [daysTo_yes hlt HP.out]; exact hr3, hb3.trans hb4⟩
            case measure => simp [intOf]; omega
        · obtain rfl : k = xs.length := by omega
          go_wp2
          go_ret2
          exact ⟨⟨_, rfl, HR.out⟩, hbel⟩
theorem MissedHighc_any (x : SVerified) (least : Int) (g : Nat) (w : World) (h : w.cell? ⟨g, 0, none⟩ = some (.int .i64 least)) :
    Calls Try.prog 66 #[.agg #[.int .i64 x.Day, .int .i64 x.Told, .int .i64 x.Seen], .pointer (some ⟨g, 0, none⟩)] w fun e w' => e = .returned (.bool (qMissed least x)) ∧ Below w.heap.size w w' := by
  have hl := lt_of_cell h
  go_enter Try.func66, Try.ntmps66
  go_wp2
  all_goals
    go_ret
    exact ⟨ret_bool (by simp [qMissed, *] <;> omega), (by repeat (first | (with_reducible assumption) | (with_reducible exact Below.refl _ _) | (with_reducible refine Bel.alloc ?_ _) | (with_reducible refine Below.drew ?_) | (with_reducible refine Bel.drewN ?_ _) | (with_reducible refine Bel.setCell ?_ (by (try simp) <;> omega) _) | (with_reducible refine Bel.trans ?_ (by assumption))))⟩
theorem MissedHigh_any (xs : List SVerified) (b c : Nat) (least : Int) (w : World) (A : Arr SVerified.cells 3 w b xs) (hn : xs.length ≤ 1048576) :
    Calls Try.prog 26 #[.slice (some ⟨b, 0, none⟩) xs.length c, .int .i64 least] w fun e w' =>
      (∃ v, e = .returned (.tuple #[v, .int .i64 (daysRes (qMissed least) least xs).2]) ∧ Row intc 1 2 w' w.heap.size v (daysRes (qMissed least) least xs).1) ∧ Below w.heap.size w w' := by
  have HA := Lib.hid A
  clear A
  go_enter Try.func26, Try.ntmps26
  go_wp2_with fail
  refine calls_box_out ?_
  intro W hbw B
  refine (daysWhere_MissedHigh xs b c least _ (qMissed least) W (HA.out.below hbw) hn (fun k hk W' hW => MissedHighc_any xs[k] least _ W' ((B.below hW).cell 0))).mono ?_
  rintro e w2 ⟨⟨v, rfl, hr⟩, hb2⟩
  go_wp2
  go_ret2
  exact ⟨⟨_, rfl, hr.lower hbw.size⟩, Bel.trans hbw hb2⟩
end Go.Proofs.Ytcjalooaikfkbaa
