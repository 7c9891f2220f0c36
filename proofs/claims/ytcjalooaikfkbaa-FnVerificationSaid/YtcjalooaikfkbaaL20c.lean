/- Chapter 20: how many days have a property; the share of right levels. -/
import Derived.Test.YtcjalooaikfkbaaL20b
namespace Go.Proofs.Ytcjalooaikfkbaa
set_option linter.unusedSimpArgs false
set_option linter.unusedVariables false
open Go.RowKit
set_option maxHeartbeats 400000
def cntV (q : SVerified → Bool) (xs : List SVerified) (k : Nat) : Nat := ((xs.take k).filter q).length
theorem cntV_yes {q : SVerified → Bool} {xs : List SVerified} {k : Nat} (hk : k < xs.length) (h : q xs[k] = true) : cntV q xs (k + 1) = cntV q xs k + 1 := by
  unfold cntV; rw [List.take_succ_eq_append_getElem hk, List.filter_append, List.length_append]; simp [h]
theorem cntV_no {q : SVerified → Bool} {xs : List SVerified} {k : Nat} (hk : k < xs.length) (h : q xs[k] = false) : cntV q xs (k + 1) = cntV q xs k := by
  unfold cntV; rw [List.take_succ_eq_append_getElem hk, List.filter_append, List.length_append]; simp [h]
theorem cntV_len (q : SVerified → Bool) (xs : List SVerified) (k : Nat) : cntV q xs k ≤ k := by
  have h1 := List.length_filter_le q (xs.take k)
  have h2 := List.length_take_le k xs
  unfold cntV
  omega
theorem okVerified_bd {x : SVerified} (h : okVerified x = true) : 0 ≤ x.Day ∧ x.Day ≤ 36524 ∧ 1 ≤ x.Told ∧ x.Told ≤ 5 ∧ 1 ≤ x.Seen ∧ x.Seen ≤ 5 := by simp [okVerified, inr] at h; omega
def qHit (most : Int) (x : SVerified) : Bool := decide (max (x.Told - x.Seen) (-(x.Told - x.Seen)) ≤ most)
def hitRes (most : Int) (xs : List SVerified) : Int × Int :=
  if vlVerified xs then (if inr 0 4 most then (if xs.length = 0 then (0, 3) else (rdiv (1000 * (cntV (qHit most) xs xs.length : Int)) (xs.length : Int), 0)) else (0, 2)) else (0, 1)
theorem hitRes_1 {m : Int} {xs : List SVerified} (h : vlVerified xs = false) : hitRes m xs = (0, 1) := by simp [hitRes, h]
theorem hitRes_2 {m : Int} {xs : List SVerified} (h : vlVerified xs = true) (h2 : inr 0 4 m = false) : hitRes m xs = (0, 2) := by simp [hitRes, h, h2]
theorem hitRes_3 {m : Int} {xs : List SVerified} (h : vlVerified xs = true) (h2 : inr 0 4 m = true) (h3 : xs.length = 0) : hitRes m xs = (0, 3) := by simp only [hitRes, h, h2, h3, if_true]
theorem hitRes_0 {m : Int} {xs : List SVerified} (h : vlVerified xs = true) (h2 : inr 0 4 m = true) (h3 : ¬ xs.length = 0) : hitRes m xs = (rdiv (1000 * (cntV (qHit m) xs xs.length : Int)) (xs.length : Int), 0) := by simp only [hitRes, h, h2, h3, if_true, if_false]
theorem hitc_any (x : SVerified) (most : Int) (g : Nat) (w : World) (h : w.cell? ⟨g, 0, none⟩ = some (.int .i64 most)) (hx : okVerified x = true) :
    Calls Try.prog 63 #[.agg #[.int .i64 x.Day, .int .i64 x.Told, .int .i64 x.Seen], .pointer (some ⟨g, 0, none⟩)] w fun e w' => e = .returned (.bool (qHit most x)) ∧ Below w.heap.size w w' := by
  have hl := lt_of_cell h
  have hbd := okVerified_bd hx
  clear hx
  go_enter Try.func63, Try.ntmps63
  go_wp2_with fail
  refine wp_box_out ?_
  intro W hbw B
  have r0 := Past.cell ((hbw.cell (p := ⟨g, 0, none⟩) hl).trans h) (Nat.lt_of_lt_of_le hl hbw.size)
  have p0 := Past.box B (j := 0) (v := .int .i64 x.Day) rfl
  have p1 := Past.box B (j := 1) (v := .int .i64 x.Told) rfl
  have p2 := Past.box B (j := 2) (v := .int .i64 x.Seen) rfl
  clear B h
  refine wp_region_past (by kernel_rfl) (by kernel_rfl) ?_
  repeat (go_big_quiet_step ((go_at_call 64; exact Past.same _ (abs_any _ _ (by omega) (by omega)))))
  refine wpQuiet_nil ?_
  intro W1 hw'
  obtain ⟨⟨W_, hb1⟩, hw''⟩ := hw'
  subst hw''
  go_wp2
  go_ret
  exact ⟨rfl, Bel.trans hbw hb1⟩
theorem countOf_hit (xs : List SVerified) (b c : Nat) (_cap : Value) (q : SVerified → Bool) (w : World) (A : Arr SVerified.cells 3 w b xs) (hn : xs.length ≤ 1048576)
    (HQ : Hid (∀ k (_ : k < xs.length) W', Below w.heap.size w W' → Calls Try.prog 63 #[.agg #[.int .i64 xs[k].Day, .int .i64 xs[k].Told, .int .i64 xs[k].Seen], _cap] W' fun e w' => e = .returned (.bool (q xs[k])) ∧ Below W'.heap.size W' w')) :
    Calls Try.prog 62 #[.slice (some ⟨b, 0, none⟩) xs.length c, .func (.func 63) #[] #[_cap]] w fun e w' => e = .returned (.int .i64 (cntV q xs xs.length)) ∧ Below w.heap.size w w' := by
  have HA := Lib.hid A
  clear A
  go_enter Try.func62, Try.ntmps62
  go_wp2_with fail
  go_loopw [5, 10] (fun m i wr => ∃ k : Nat, k ≤ xs.length ∧ i = .int .i64 k ∧ m = .int .i64 (cntV q xs k) ∧ Below w.heap.size w wr) (fun _ i wr => xs.length - (intOf i).toNat)
  case atStart => exact ⟨0, by omega, rfl, rfl, Below.refl _ _⟩
  case round =>
    obtain ⟨k, hk, rfl, rfl, hbel⟩ := hrel
    have hle := cntV_len q xs k
    by_cases hlt : k < xs.length
    · obtain ⟨e0, e1, e2⟩ := SVerified.elem (HA.out.below hbel) hlt
      go_wp2_with fail
      refine calls_box_out ?_
      intro W hbw B
      have hbt := Bel.trans hbel hbw
      clear e0 e1 e2 B
      cases hq : q xs[k]
      · have HP := Lib.hid hq
        clear hq
        refine (Calls.boolIs HP.out (HQ.out k hlt W hbt)).mono ?_
        rintro e w2 ⟨rfl, hb2⟩
        go_wp2
        go_roundw
        case rel => exact ⟨k + 1, by omega, by go_num, by rw [cntV_no hlt HP.out], Bel.trans hbt hb2⟩
        case measure => simp [intOf]; omega
      · have HP := Lib.hid hq
        clear hq
        refine (Calls.boolIs HP.out (HQ.out k hlt W hbt)).mono ?_
        rintro e w2 ⟨rfl, hb2⟩
        go_wp2
        go_roundw
        case rel => exact ⟨k + 1, by omega, by go_num, by rw [cntV_yes hlt HP.out]; go_num, Bel.trans hbt hb2⟩
        case measure => simp [intOf]; omega
    · obtain rfl : k = xs.length := by omega
      go_wp2
      go_ret
      exact ⟨rfl, hbel⟩
theorem vlV_ok {xs : List SVerified} (h : vlVerified xs = true) : ∀ k (hk : k < xs.length), okVerified xs[k] = true := vlVerified_ok h
theorem HitShare_any (xs : List SVerified) (b c : Nat) (most : Int) (w : World) (A : Arr SVerified.cells 3 w b xs) (hn : xs.length ≤ 1048576) :
    Calls Try.prog 21 #[.slice (some ⟨b, 0, none⟩) xs.length c, .int .i64 most] w fun e w' => e = .returned (.tuple #[.int .i64 (hitRes most xs).1, .int .i64 (hitRes most xs).2]) ∧ Below w.heap.size w w' := by
  have HA := Lib.hid A
  clear A
  cases hv : vlVerified xs
  · rw [hitRes_1 hv]
    have HV := Lib.hid hv
    clear hv
    go_enter Try.func21, Try.ntmps21
    go_wp2_with fail
    refine calls_box_out ?_
    intro W hbw B
    refine (Calls.boolIs HV.out (ValidVerified_any xs b c _ (HA.out.below hbw) hn)).mono ?_
    rintro e w1 ⟨rfl, hb1⟩
    clear B
    go_wp2
    go_ret2
    exact ⟨rfl, Bel.trans hbw hb1⟩
  · have HV := Lib.hid hv
    have h64 := vlVerified_len hv
    clear hv
    cases hm : inr 0 4 most
    · rw [hitRes_2 HV.out hm]
      have HM := Lib.hid hm
      clear hm
      go_enter Try.func21, Try.ntmps21
      go_wp2_with fail
      refine calls_box_out ?_
      intro W hbw B
      refine (Calls.boolIs HV.out (ValidVerified_any xs b c _ (HA.out.below hbw) hn)).mono ?_
      rintro e w1 ⟨rfl, hb1⟩
      have B := B.below hb1
      have hbt := Bel.trans hbw hb1
      have c0 : w1.cell? ⟨w.heap.size, 0, none⟩ = some (.int .i64 most) := B.cell 0
      go_wp2_with fail
      refine (Calls.boolIs HM.out (within_any _ _ _ _)).mono ?_
      rintro e w' ⟨rfl, rfl⟩
      go_wp2_with fail
      go_ret2
      exact ⟨rfl, hbt⟩
    · by_cases hz : xs.length = 0
      · rw [hitRes_3 HV.out hm hz]
        have HM := Lib.hid hm
        have hz1 : ((xs.length : Int) == 0) = true := by simp [hz]
        clear hm hz
        go_enter Try.func21, Try.ntmps21
        go_wp2_with fail
        refine calls_box_out ?_
        intro W hbw B
        refine (Calls.boolIs HV.out (ValidVerified_any xs b c _ (HA.out.below hbw) hn)).mono ?_
        rintro e w1 ⟨rfl, hb1⟩
        have B := B.below hb1
        have hbt := Bel.trans hbw hb1
        have c0 : w1.cell? ⟨w.heap.size, 0, none⟩ = some (.int .i64 most) := B.cell 0
        go_wp2_with fail
        refine (Calls.boolIs HM.out (within_any _ _ _ _)).mono ?_
        rintro e w' ⟨rfl, rfl⟩
        go_wp2_with fail
        go_ret2
        exact ⟨rfl, hbt⟩
      · rw [hitRes_0 HV.out hm hz]
        have HM := Lib.hid hm
        have hz1 : ((xs.length : Int) == 0) = false := beq_eq_false_iff_ne.mpr (by omega)
        have hz2 : (0 : Int) < (xs.length : Int) := by omega
        have hle := cntV_len (qHit most) xs xs.length
        clear hm hz
        go_enter Try.func21, Try.ntmps21
        go_wp2_with fail
        refine calls_box_out ?_
        intro W hbw B
        refine (Calls.boolIs HV.out (ValidVerified_any xs b c _ (HA.out.below hbw) hn)).mono ?_
        rintro e w1 ⟨rfl, hb1⟩
        have B := B.below hb1
        have hbt := Bel.trans hbw hb1
        have c0 : w1.cell? ⟨w.heap.size, 0, none⟩ = some (.int .i64 most) := B.cell 0
        go_wp2_with fail
        refine (Calls.boolIs HM.out (within_any _ _ _ _)).mono ?_
        rintro e w' ⟨rfl, rfl⟩
        go_wp2_with fail
        refine (countOf_hit xs b c _ (qHit most) w1 ((HA.out.below hbw).below hb1) hn (fun k hk W' hW => hitc_any xs[k] most _ W' ((B.below hW).cell 0) (vlV_ok HV.out k hk))).mono ?_
        rintro e w2 ⟨rfl, hb2⟩
        go_wp2_with fail
        refine (divRound_any _ _ _ (by omega) (by omega) (by omega) (by omega)).mono ?_
        rintro e w3 ⟨rfl, n3, rfl⟩
        go_wp2
        go_ret2
        exact ⟨rfl, Bel.drewN (Bel.trans hbt hb2) _⟩
end Go.Proofs.Ytcjalooaikfkbaa
