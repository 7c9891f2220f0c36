/- Chapter 20: the skill of forecasts; the worst days. -/
import Derived.Test.YtamolhhccfnlfaaL20c
namespace Go.Proofs.Ytamolhhccfnlfaa
open Go.RowKit
set_option maxHeartbeats 400000
set_option maxRecDepth 100000
def qEq (x : SVerified) : Bool := x.Told == x.Seen
def qT (l : Int) (x : SVerified) : Bool := x.Told == l
def qS (l : Int) (x : SVerified) : Bool := x.Seen == l
def skE (xs : List SVerified) : Nat → Int
  | 0 => 0
  | j + 1 => skE xs j + (cntV (qT (j + 1 : Int)) xs xs.length : Int) * (cntV (qS (j + 1 : Int)) xs xs.length : Int)
theorem mul64 {a b : Nat} (ha : a ≤ 64) (hb : b ≤ 64) : 0 ≤ (a : Int) * (b : Int) ∧ (a : Int) * (b : Int) ≤ 4096 := by
  have h := Nat.mul_le_mul ha hb
  have h2 : ((a * b : Nat) : Int) = (a : Int) * (b : Int) := by push_cast; rfl
  omega
theorem skE_bd {xs : List SVerified} (h : xs.length ≤ 64) : ∀ j, 0 ≤ skE xs j ∧ skE xs j ≤ 4096 * j
  | 0 => by simp [skE]
  | j + 1 => by
    have ih := skE_bd h j
    have h1 := cntV_len (qT (j + 1 : Int)) xs xs.length
    have h2 := cntV_len (qS (j + 1 : Int)) xs xs.length
    have h3 := mul64 (a := cntV (qT (j + 1 : Int)) xs xs.length) (b := cntV (qS (j + 1 : Int)) xs xs.length) (by omega) (by omega)
    simp only [skE]
    omega
theorem toldSum (xs : List SVerified) : ∀ k, k ≤ xs.length → cntV (qT 1) xs k + cntV (qT 2) xs k + cntV (qT 3) xs k + cntV (qT 4) xs k + cntV (qT 5) xs k ≤ k
  | 0, _ => by simp [cntV]
  | k + 1, hk => by
    have ih := toldSum xs k (by omega)
    have hlt : k < xs.length := by omega
    have st (l : Int) : cntV (qT l) xs (k + 1) = cntV (qT l) xs k + if xs[k].Told = l then 1 else 0 := by
      by_cases e : xs[k].Told = l
      · rw [cntV_yes hlt (by simp [qT, e]), if_pos e]
      · rw [cntV_no hlt (by simp [qT, e]), if_neg e]; rfl
    rw [st 1, st 2, st 3, st 4, st 5]
    repeat' split
    all_goals omega
theorem skE_le (xs : List SVerified) : skE xs 5 ≤ (xs.length : Int) * (xs.length : Int) := by
  have hs := toldSum xs xs.length (Nat.le_refl _)
  have m (l : Int) : (cntV (qT l) xs xs.length : Int) * (cntV (qS l) xs xs.length : Int) ≤ (cntV (qT l) xs xs.length : Int) * (xs.length : Int) :=
    Int.mul_le_mul_of_nonneg_left (by have := cntV_len (qS l) xs xs.length; omega) (by omega)
  have m1 := m 1
  have m2 := m 2
  have m3 := m 3
  have m4 := m 4
  have m5 := m 5
  have t : ((cntV (qT 1) xs xs.length : Int) + (cntV (qT 2) xs xs.length : Int) + (cntV (qT 3) xs xs.length : Int) + (cntV (qT 4) xs xs.length : Int) + (cntV (qT 5) xs xs.length : Int)) * (xs.length : Int) ≤ (xs.length : Int) * (xs.length : Int) :=
    Int.mul_le_mul_of_nonneg_right (by omega) (by omega)
  rw [Int.add_mul, Int.add_mul, Int.add_mul, Int.add_mul] at t
  have e : skE xs 5 = 0 + (cntV (qT 1) xs xs.length : Int) * (cntV (qS 1) xs xs.length : Int) + (cntV (qT 2) xs xs.length : Int) * (cntV (qS 2) xs xs.length : Int) + (cntV (qT 3) xs xs.length : Int) * (cntV (qS 3) xs xs.length : Int) + (cntV (qT 4) xs xs.length : Int) * (cntV (qS 4) xs xs.length : Int) + (cntV (qT 5) xs xs.length : Int) * (cntV (qS 5) xs xs.length : Int) := rfl
  omega
theorem hit_eq (x : SVerified) : qHit 0 x = qEq x := by
  unfold qHit qEq
  by_cases e : x.Told = x.Seen
  · rw [beq_iff_eq.mpr e]; exact decide_eq_true (by omega)
  · rw [beq_eq_false_iff_ne.mpr e]; exact decide_eq_false (by omega)
theorem cnt_eq (xs : List SVerified) (k : Nat) : cntV (qHit 0) xs k = cntV qEq xs k := by
  unfold cntV; rw [show qHit 0 = qEq from funext hit_eq]
def skRes (xs : List SVerified) : Int × Int :=
  if vlVerified xs then (if xs.length = 0 then (0, 3) else if ((xs.length : Int) * (xs.length : Int) == skE xs 5) then (0, 6) else (rdiv (1000 * ((xs.length : Int) * (cntV qEq xs xs.length : Int) - skE xs 5)) ((xs.length : Int) * (xs.length : Int) - skE xs 5), 0)) else (0, 1)
theorem skRes_1 {xs : List SVerified} (h : vlVerified xs = false) : skRes xs = (0, 1) := by simp [skRes, h]
theorem skRes_3 {xs : List SVerified} (h : vlVerified xs = true) (h3 : xs.length = 0) : skRes xs = (0, 3) := by simp only [skRes, h, h3, if_true]
theorem skRes_6 {xs : List SVerified} (h : vlVerified xs = true) (h3 : ¬ xs.length = 0) (h6 : ((xs.length : Int) * (xs.length : Int) == skE xs 5) = true) : skRes xs = (0, 6) := by simp only [skRes, h, h3, h6, if_true, if_false]
theorem skRes_0 {xs : List SVerified} (h : vlVerified xs = true) (h3 : ¬ xs.length = 0) (h6 : ((xs.length : Int) * (xs.length : Int) == skE xs 5) = false) : skRes xs = (rdiv (1000 * ((xs.length : Int) * (cntV qEq xs xs.length : Int) - skE xs 5)) ((xs.length : Int) * (xs.length : Int) - skE xs 5), 0) := by
  simp only [skRes, h, h3, if_true, if_false]; rw [if_neg (by rw [h6]; simp)]
theorem countOf_sk1 (xs : List SVerified) (b c : Nat) (_cap : Value) (q : SVerified → Bool) (w : World) (A : Arr SVerified.cells 3 w b xs) (hn : xs.length ≤ 1048576)
    (HQ : Hid (∀ k (_ : k < xs.length) W', Below w.heap.size w W' → Calls Try.prog 95 #[.agg #[.int .i64 xs[k].Day, .int .i64 xs[k].Told, .int .i64 xs[k].Seen]] W' fun e w' => e = .returned (.bool (q xs[k])) ∧ Below W'.heap.size W' w')) :
    Calls Try.prog 83 #[.slice (some ⟨b, 0, none⟩) xs.length c, .func (.func 95) #[] #[]] w fun e w' => e = .returned (.int .i64 (cntV q xs xs.length)) ∧ Below w.heap.size w w' := by
  have HA := Lib.hid A
  clear A
  go_enter Try.func83, Try.ntmps83
  go_wp2_with fail
  go_loopw [5, 10] (fun m i wr => ∃ k : Nat, k ≤ xs.length ∧ i = .int .i64 k ∧ m = .int .i64 (cntV q xs k) ∧ Below w.heap.size w wr) (fun _ i wr => xs.length - (intOf i).toNat)
  case atStart => exact ⟨0, by omega, rfl, rfl, Below.refl _ _⟩
  case round =>
    obtain ⟨k, hk, rfl, rfl, hbel⟩ := hrel
    have hle := cntV_len q xs k
    by_cases hlt : k < xs.length
    · obtain ⟨e0, e1, e2⟩ := SVerified.elem (HA.out.below hbel) hlt
      go_wp2_with fail
      refine calls_box_out ?_
      intro W hbw B
      have hbt := Bel.trans hbel hbw
      clear e0 e1 e2 B
      cases hq : q xs[k]
      · have HP := Lib.hid hq
        clear hq
        refine (Calls.boolIs HP.out (HQ.out k hlt W hbt)).mono ?_
        rintro e w2 ⟨rfl, hb2⟩
        go_wp2
        go_roundw
        case rel => exact ⟨k + 1, by omega, by go_num, by rw [cntV_no hlt HP.out], Bel.trans hbt hb2⟩
        case measure => simp [intOf]; omega
      · have HP := Lib.hid hq
        clear hq
        refine (Calls.boolIs HP.out (HQ.out k hlt W hbt)).mono ?_
        rintro e w2 ⟨rfl, hb2⟩
        go_wp2
        go_roundw
        case rel => exact ⟨k + 1, by omega, by go_num, by rw [cntV_yes hlt HP.out]; go_num, Bel.trans hbt hb2⟩
        case measure => simp [intOf]; omega
    · obtain rfl : k = xs.length := by omega
      go_wp2
      go_ret
      exact ⟨rfl, hbel⟩
theorem skc1_any (x : SVerified) (w : World) :
    Calls Try.prog 95 #[.agg #[.int .i64 x.Day, .int .i64 x.Told, .int .i64 x.Seen]] w fun e w' => e = .returned (.bool (qEq x)) ∧ Below w.heap.size w w' := by
  go_enter Try.func95, Try.ntmps95
  go_wp2
  all_goals
    go_ret
    exact ⟨ret_bool (by simp [qEq, *] <;> omega), (by repeat (first | (with_reducible assumption) | (with_reducible exact Below.refl _ _) | (with_reducible refine Bel.alloc ?_ _) | (with_reducible refine Below.drew ?_) | (with_reducible refine Bel.drewN ?_ _) | (with_reducible refine Bel.setCell ?_ (by (try simp) <;> omega) _) | (with_reducible refine Bel.trans ?_ (by assumption))))⟩
theorem countOf_sk2 (xs : List SVerified) (b c : Nat) (_cap : Value) (q : SVerified → Bool) (w : World) (A : Arr SVerified.cells 3 w b xs) (hn : xs.length ≤ 1048576)
    (HQ : Hid (∀ k (_ : k < xs.length) W', Below w.heap.size w W' → Calls Try.prog 96 #[.agg #[.int .i64 xs[k].Day, .int .i64 xs[k].Told, .int .i64 xs[k].Seen], _cap] W' fun e w' => e = .returned (.bool (q xs[k])) ∧ Below W'.heap.size W' w')) :
    Calls Try.prog 83 #[.slice (some ⟨b, 0, none⟩) xs.length c, .func (.func 96) #[] #[_cap]] w fun e w' => e = .returned (.int .i64 (cntV q xs xs.length)) ∧ Below w.heap.size w w' := by
  have HA := Lib.hid A
  clear A
  go_enter Try.func83, Try.ntmps83
  go_wp2_with fail
  go_loopw [5, 10] (fun m i wr => ∃ k : Nat, k ≤ xs.length ∧ i = .int .i64 k ∧ m = .int .i64 (cntV q xs k) ∧ Below w.heap.size w wr) (fun _ i wr => xs.length - (intOf i).toNat)
  case atStart => exact ⟨0, by omega, rfl, rfl, Below.refl _ _⟩
  case round =>
    obtain ⟨k, hk, rfl, rfl, hbel⟩ := hrel
    have hle := cntV_len q xs k
    by_cases hlt : k < xs.length
    · obtain ⟨e0, e1, e2⟩ := SVerified.elem (HA.out.below hbel) hlt
      go_wp2_with fail
      refine calls_box_out ?_
      intro W hbw B
      have hbt := Bel.trans hbel hbw
      clear e0 e1 e2 B
      cases hq : q xs[k]
      · have HP := Lib.hid hq
        clear hq
        refine (Calls.boolIs HP.out (HQ.out k hlt W hbt)).mono ?_
        rintro e w2 ⟨rfl, hb2⟩
        go_wp2
        go_roundw
        case rel => exact ⟨k + 1, by omega, by go_num, by rw [cntV_no hlt HP.out], Bel.trans hbt hb2⟩
        case measure => simp [intOf]; omega
      · have HP := Lib.hid hq
        clear hq
        refine (Calls.boolIs HP.out (HQ.out k hlt W hbt)).mono ?_
        rintro e w2 ⟨rfl, hb2⟩
        go_wp2
        go_roundw
        case rel => exact ⟨k + 1, by omega, by go_num, by rw [cntV_yes hlt HP.out]; go_num, Bel.trans hbt hb2⟩
        case measure => simp [intOf]; omega
    · obtain rfl : k = xs.length := by omega
      go_wp2
      go_ret
      exact ⟨rfl, hbel⟩
theorem skc2_any (x : SVerified) (l : Int) (g : Nat) (w : World) (h : w.cell? ⟨g, 0, none⟩ = some (.int .i64 l)) :
    Calls Try.prog 96 #[.agg #[.int .i64 x.Day, .int .i64 x.Told, .int .i64 x.Seen], .pointer (some ⟨g, 0, none⟩)] w fun e w' => e = .returned (.bool (qT l x)) ∧ Below w.heap.size w w' := by
  have hl := lt_of_cell h
  go_enter Try.func96, Try.ntmps96
  go_wp2
  all_goals
    go_ret
    exact ⟨ret_bool (by simp [qT, *] <;> omega), (by repeat (first | (with_reducible assumption) | (with_reducible exact Below.refl _ _) | (with_reducible refine Bel.alloc ?_ _) | (with_reducible refine Below.drew ?_) | (with_reducible refine Bel.drewN ?_ _) | (with_reducible refine Bel.setCell ?_ (by (try simp) <;> omega) _) | (with_reducible refine Bel.trans ?_ (by assumption))))⟩
theorem countOf_sk3 (xs : List SVerified) (b c : Nat) (_cap : Value) (q : SVerified → Bool) (w : World) (A : Arr SVerified.cells 3 w b xs) (hn : xs.length ≤ 1048576)
    (HQ : Hid (∀ k (_ : k < xs.length) W', Below w.heap.size w W' → Calls Try.prog 97 #[.agg #[.int .i64 xs[k].Day, .int .i64 xs[k].Told, .int .i64 xs[k].Seen], _cap] W' fun e w' => e = .returned (.bool (q xs[k])) ∧ Below W'.heap.size W' w')) :
    Calls Try.prog 83 #[.slice (some ⟨b, 0, none⟩) xs.length c, .func (.func 97) #[] #[_cap]] w fun e w' => e = .returned (.int .i64 (cntV q xs xs.length)) ∧ Below w.heap.size w w' := by
  have HA := Lib.hid A
  clear A
  go_enter Try.func83, Try.ntmps83
  go_wp2_with fail
  go_loopw [5, 10] (fun m i wr => ∃ k : Nat, k ≤ xs.length ∧ i = .int .i64 k ∧ m = .int .i64 (cntV q xs k) ∧ Below w.heap.size w wr) (fun _ i wr => xs.length - (intOf i).toNat)
  case atStart => exact ⟨0, by omega, rfl, rfl, Below.refl _ _⟩
  case round =>
    obtain ⟨k, hk, rfl, rfl, hbel⟩ := hrel
    have hle := cntV_len q xs k
    by_cases hlt : k < xs.length
    · obtain ⟨e0, e1, e2⟩ := SVerified.elem (HA.out.below hbel) hlt
      go_wp2_with fail
      refine calls_box_out ?_
      intro W hbw B
      have hbt := Bel.trans hbel hbw
      clear e0 e1 e2 B
      cases hq : q xs[k]
      · have HP := Lib.hid hq
        clear hq
        refine (Calls.boolIs HP.out (HQ.out k hlt W hbt)).mono ?_
        rintro e w2 ⟨rfl, hb2⟩
        go_wp2
        go_roundw
        case rel => exact ⟨k + 1, by omega, by go_num, by rw [cntV_no hlt HP.out], Bel.trans hbt hb2⟩
        case measure => simp [intOf]; omega
      · have HP := Lib.hid hq
        clear hq
        refine (Calls.boolIs HP.out (HQ.out k hlt W hbt)).mono ?_
        rintro e w2 ⟨rfl, hb2⟩
        go_wp2
        go_roundw
        case rel => exact ⟨k + 1, by omega, by go_num, by rw [cntV_yes hlt HP.out]; go_num, Bel.trans hbt hb2⟩
        case measure => simp [intOf]; omega
    · obtain rfl : k = xs.length := by omega
      go_wp2
      go_ret
      exact ⟨rfl, hbel⟩
theorem skc3_any (x : SVerified) (l : Int) (g : Nat) (w : World) (h : w.cell? ⟨g, 0, none⟩ = some (.int .i64 l)) :
    Calls Try.prog 97 #[.agg #[.int .i64 x.Day, .int .i64 x.Told, .int .i64 x.Seen], .pointer (some ⟨g, 0, none⟩)] w fun e w' => e = .returned (.bool (qS l x)) ∧ Below w.heap.size w w' := by
  have hl := lt_of_cell h
  go_enter Try.func97, Try.ntmps97
  go_wp2
  all_goals
    go_ret
    exact ⟨ret_bool (by simp [qS, *] <;> omega), (by repeat (first | (with_reducible assumption) | (with_reducible exact Below.refl _ _) | (with_reducible refine Bel.alloc ?_ _) | (with_reducible refine Below.drew ?_) | (with_reducible refine Bel.drewN ?_ _) | (with_reducible refine Bel.setCell ?_ (by (try simp) <;> omega) _) | (with_reducible refine Bel.trans ?_ (by assumption))))⟩
def ptrIn (p : Value) (w : World) : Nat := match p with | .pointer (some a) => 6 - (match w.cell? a with | some v => (intOf v).toNat | none => 0) | _ => 0
theorem SkillOf_any (xs : List SVerified) (b c : Nat) (w : World) (A : Arr SVerified.cells 3 w b xs) (hn : xs.length ≤ 1048576) :
    Calls Try.prog 40 #[.slice (some ⟨b, 0, none⟩) xs.length c] w fun e w' => e = .returned (.tuple #[.int .i64 (skRes xs).1, .int .i64 (skRes xs).2]) ∧ Below w.heap.size w w' := by
  have HA := Lib.hid A
  clear A
  cases hv : vlVerified xs
  · rw [skRes_1 hv]
    have HV := Lib.hid hv
    clear hv
    go_enter Try.func40, Try.ntmps40
    go_wp2_with (go_at_call 80; refine (Calls.boolIs HV.out (ValidVerified_any xs b c _ HA.out hn)).mono ?_; rintro e w1 ⟨rfl, hb1⟩)
    go_ret2
    exact ⟨rfl, hb1⟩
  · have HV := Lib.hid hv
    have h64 := vlVerified_len hv
    clear hv
    by_cases hz : xs.length = 0
    · rw [skRes_3 HV.out hz]
      have hz1 : ((xs.length : Int) == 0) = true := beq_iff_eq.mpr (by omega)
      clear hz
      go_enter Try.func40, Try.ntmps40
      go_wp2_with (go_at_call 80; refine (Calls.boolIs HV.out (ValidVerified_any xs b c _ HA.out hn)).mono ?_; rintro e w1 ⟨rfl, hb1⟩)
      go_ret2
      exact ⟨rfl, hb1⟩
    · have hz1 : ((xs.length : Int) == 0) = false := beq_eq_false_iff_ne.mpr (by omega)
      have HZ := Lib.hid hz
      have hbd := skE_bd h64
      have HBD := Lib.hid hbd
      have hq := cntV_len qEq xs xs.length
      clear hz hbd
      generalize hR : skRes xs = R
      have HR := Lib.hid hR
      clear hR
      go_enter Try.func40, Try.ntmps40
      go_wp2_with (go_at_call 80; refine (Calls.boolIs HV.out (ValidVerified_any xs b c _ HA.out hn)).mono ?_; rintro e w1 ⟨rfl, hb1⟩)
      refine (countOf_sk1 xs b c (.int .i64 0) qEq w1 (HA.out.below hb1) hn (fun k hk W' hW => skc1_any xs[k] W')).mono ?_
      rintro e w2 ⟨rfl, hb2⟩
      have hb := Bel.trans hb1 hb2
      have hs2 := hb.size
      clear hb1 hb2
      go_wp2_with fail
      go_loopw [5, 7] (fun e p wr => ∃ k g : Nat, k ≤ 5 ∧ e = .int .i64 (skE xs k) ∧ p = .pointer (some ⟨g, 0, none⟩) ∧ Box 2 wr g #[.int .i64 (k + 1 : Int)] ∧ w.heap.size ≤ g ∧ Below w.heap.size w wr) (fun _ p wr => ptrIn p wr)
      case atStart => exact ⟨0, w2.heap.size, by omega, rfl, rfl, Box.new _ _ _, by omega, (by repeat (first | (with_reducible assumption) | (with_reducible exact Below.refl _ _) | (with_reducible refine Bel.alloc ?_ _) | (with_reducible refine Below.drew ?_) | (with_reducible refine Bel.drewN ?_ _) | (with_reducible refine Bel.setCell ?_ (by (try simp) <;> omega) _) | (with_reducible refine Bel.trans ?_ (by assumption))))⟩
      case round =>
        obtain ⟨k, g, hk, rfl, rfl, B, hg, hbel⟩ := hrel
        have hBD := HBD.out k
        have c0 : wr.cell? ⟨g, 0, none⟩ = some (.int .i64 (k + 1 : Int)) := B.cell 0
        have CR := Lib.hid c0
        by_cases hlt : k < 5
        · have t1 := cntV_len (qT (k + 1 : Int)) xs xs.length
          have t2 := cntV_len (qS (k + 1 : Int)) xs xs.length
          have t3 := mul64 (a := cntV (qT (k + 1 : Int)) xs xs.length) (b := cntV (qS (k + 1 : Int)) xs xs.length) (by omega) (by omega)
          go_wp2_with fail
          refine (countOf_sk2 xs b c _ (qT (k + 1 : Int)) wr (HA.out.below hbel) hn (fun i hi W' hW => skc2_any xs[i] (k + 1 : Int) g W' ((B.below hW).cell 0))).mono ?_
          rintro e w3 ⟨rfl, hb3⟩
          have B := B.below hb3
          have hbel := Bel.trans hbel hb3
          clear c0 hb3
          go_wp2_with fail
          refine (countOf_sk3 xs b c _ (qS (k + 1 : Int)) w3 (HA.out.below hbel) hn (fun i hi W' hW => skc3_any xs[i] (k + 1 : Int) g W' ((B.below hW).cell 0))).mono ?_
          rintro e w4 ⟨rfl, hb4⟩
          have B := B.below hb4
          have hbel := Bel.trans hbel hb4
          have c0 : w4.cell? ⟨g, 0, none⟩ = some (.int .i64 (k + 1 : Int)) := B.cell 0
          have hl := B.lt
          clear hb4
          go_wp2
          go_roundw
          case rel => exact ⟨k + 1, w4.heap.size, by omega, rfl, rfl, (by rw [show ((k + 1 : Nat) : Int) + 1 = (k : Int) + 1 + 1 by omega]; exact Box.new _ _ _), by omega, (by repeat (first | (with_reducible assumption) | (with_reducible exact Below.refl _ _) | (with_reducible refine Bel.alloc ?_ _) | (with_reducible refine Below.drew ?_) | (with_reducible refine Bel.drewN ?_ _) | (with_reducible refine Bel.setCell ?_ (by (try simp) <;> omega) _) | (with_reducible refine Bel.trans ?_ (by assumption))))⟩
          case measure => have e2 : ((k : Int) + 1 + 1).toNat = k + 2 := rfl; simp [ptrIn, intOf, CR.out, e2]; omega
        · obtain rfl : k = 5 := by omega
          have hle := skE_le xs
          have hnn : 0 ≤ (xs.length : Int) * (xs.length : Int) ∧ (xs.length : Int) * (xs.length : Int) ≤ 4096 := mul64 h64 h64
          have hnh : 0 ≤ (xs.length : Int) * (cntV qEq xs xs.length : Int) ∧ (xs.length : Int) * (cntV qEq xs xs.length : Int) ≤ 4096 := mul64 h64 (by omega)
          cases he : ((xs.length : Int) * (xs.length : Int) == skE xs 5)
          · have hne := beq_eq_false_iff_ne.mp he
            go_wp2_with fail
            refine (divRound_any _ _ _ (by omega) (by omega) (by omega) (by omega)).mono ?_
            rintro e w3 ⟨rfl, n3, rfl⟩
            go_wp2
            go_ret2
            exact ⟨by rw [← HR.out, skRes_0 HV.out HZ.out he]; rfl, Bel.drewN hbel _⟩
          · go_wp2
            go_ret2
            exact ⟨by rw [← HR.out, skRes_6 HV.out HZ.out he]; rfl, hbel⟩
theorem sSkillOf_any (xs : List SVerified) (b c : Nat) (w : World) (A : Arr SVerified.cells 3 w b xs) (hn : xs.length ≤ 1048576) :
    Calls Try.prog 39 #[.slice (some ⟨b, 0, none⟩) xs.length c] w fun e w' => e = .returned (.tuple #[.int .i64 (skRes xs).1, .int .i64 (skRes xs).2]) ∧ Below w.heap.size w w' := by
  have HA := Lib.hid A
  clear A
  cases hv : vlVerified xs
  · rw [skRes_1 hv]
    have HV := Lib.hid hv
    clear hv
    go_enter Try.func39, Try.ntmps39
    go_wp2_with (go_at_call 61; refine (Calls.boolIs HV.out (l20Ok_any xs b c _ HA.out hn)).mono ?_; rintro e w1 ⟨rfl, hb1⟩)
    go_ret2
    exact ⟨rfl, hb1⟩
  · have HV := Lib.hid hv
    have h64 := vlVerified_len hv
    clear hv
    by_cases hz : xs.length = 0
    · rw [skRes_3 HV.out hz]
      have hz1 : ((xs.length : Int) == 0) = true := beq_iff_eq.mpr (by omega)
      clear hz
      go_enter Try.func39, Try.ntmps39
      go_wp2_with (go_at_call 61; refine (Calls.boolIs HV.out (l20Ok_any xs b c _ HA.out hn)).mono ?_; rintro e w1 ⟨rfl, hb1⟩)
      go_ret2
      exact ⟨rfl, hb1⟩
    · have hz1 : ((xs.length : Int) == 0) = false := beq_eq_false_iff_ne.mpr (by omega)
      have HZ := Lib.hid hz
      have hbd := skE_bd h64
      have HBD := Lib.hid hbd
      have hq := cntV_len (qHit 0) xs xs.length
      clear hz hbd
      generalize hR : skRes xs = R
      have HR := Lib.hid hR
      clear hR
      go_enter Try.func39, Try.ntmps39
      go_wp2_with (go_at_call 61; refine (Calls.boolIs HV.out (l20Ok_any xs b c _ HA.out hn)).mono ?_; rintro e w1 ⟨rfl, hb1⟩)
      go_loopw [5, 6] (fun e l wr => ∃ k : Nat, k ≤ 5 ∧ e = .int .i64 (skE xs k) ∧ l = .int .i64 (k + 1 : Int) ∧ Below w.heap.size w wr) (fun _ l wr => 6 - (intOf l).toNat)
      case atStart => exact ⟨0, by omega, rfl, rfl, hb1⟩
      case round =>
        obtain ⟨k, hk, rfl, rfl, hbel⟩ := hrel
        have hBD := HBD.out k
        by_cases hlt : k < 5
        · have t1 := cntV_len (qT (k + 1 : Int)) xs xs.length
          have t2 := cntV_len (qS (k + 1 : Int)) xs xs.length
          have t3 := mul64 (a := cntV (qT (k + 1 : Int)) xs xs.length) (b := cntV (qS (k + 1 : Int)) xs xs.length) (by omega) (by omega)
          obtain ⟨wo, rfl⟩ : ∃ wo : World, wo = wr := ⟨_, rfl⟩
          have hbo := hbel
          go_wp2_with fail
          go_loopw [7, 8, 9] (fun t s i wr => ∃ j : Nat, j ≤ xs.length ∧ i = .int .i64 j ∧ t = .int .i64 (cntV (qT (k + 1 : Int)) xs j) ∧ s = .int .i64 (cntV (qS (k + 1 : Int)) xs j) ∧ Below w.heap.size w wr) (fun _ _ i wr => xs.length - (intOf i).toNat)
          case atStart => exact ⟨0, by omega, rfl, rfl, rfl, hbo⟩
          case round =>
            obtain ⟨j, hj, rfl, rfl, rfl, hbi⟩ := hrel
            have u1 := cntV_len (qT (k + 1 : Int)) xs j
            have u2 := cntV_len (qS (k + 1 : Int)) xs j
            by_cases hjt : j < xs.length
            · obtain ⟨e0, e1, e2⟩ := SVerified.elem (HA.out.below hbi) hjt
              cases h1 : (xs[j].Told == (k + 1 : Int))
              all_goals
                cases h2 : (xs[j].Seen == (k + 1 : Int))
                all_goals
                  go_wp2
                  go_roundw
                  case rel => exact ⟨j + 1, by omega, by go_num, by (first | rw [cntV_yes hjt h1]; go_num | rw [cntV_no hjt h1]), by (first | rw [cntV_yes hjt h2]; go_num | rw [cntV_no hjt h2]), hbi⟩
                  case measure => simp [intOf]; omega
            · obtain rfl : j = xs.length := by omega
              go_wp2
              go_roundw
              case rel => exact ⟨k + 1, by omega, rfl, by go_num, hbi⟩
              case measure => simp [intOf]; omega
        · obtain rfl : k = 5 := by omega
          have hle := skE_le xs
          have hnn : 0 ≤ (xs.length : Int) * (xs.length : Int) ∧ (xs.length : Int) * (xs.length : Int) ≤ 4096 := mul64 h64 h64
          have hnh : 0 ≤ (xs.length : Int) * (cntV (qHit 0) xs xs.length : Int) ∧ (xs.length : Int) * (cntV (qHit 0) xs xs.length : Int) ≤ 4096 := mul64 h64 (by omega)
          cases he : ((xs.length : Int) * (xs.length : Int) == skE xs 5)
          · have hne := beq_eq_false_iff_ne.mp he
            go_wp2_with fail
            refine (l20Hits_any xs b c 0 _ (HA.out.below hbel) hn (vlV_ok HV.out)).mono ?_
            rintro e w2 ⟨rfl, hb2⟩
            go_wp2_with fail
            refine (l01Div_any _ _ _ (by omega) (by omega) (by omega) (by omega)).mono ?_
            rintro e w3 ⟨rfl, rfl⟩
            go_wp2
            go_ret2
            exact ⟨by rw [← HR.out, skRes_0 HV.out HZ.out he, ← cnt_eq]; rfl, Bel.trans hbel hb2⟩
          · go_wp2
            go_ret2
            exact ⟨by rw [← HR.out, skRes_6 HV.out HZ.out he]; rfl, hbel⟩
end Go.Proofs.Ytamolhhccfnlfaa
