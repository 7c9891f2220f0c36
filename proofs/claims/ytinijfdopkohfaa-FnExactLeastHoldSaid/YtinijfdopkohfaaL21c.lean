/- Chapter 21: a step of a gate; the code of a gate and hazards: the walks. -/
import Derived.Test.YtinijfdopkohfaaL21
namespace Go.Proofs.Ytinijfdopkohfaa
set_option linter.unusedSimpArgs false
set_option linter.unusedVariables false
open Go.RowKit
set_option maxHeartbeats 400000
set_option maxRecDepth 100000
theorem acode_1 {x : SGate} {hs : List Int} {t : Int} (h : okGate x = false) : acode x hs t = 1 := by rw [acode, if_neg (by rw [h]; simp)]
theorem acode_2 {x : SGate} {hs : List Int} {t : Int} (h : okGate x = true) (h2 : (allIn 0 1000 hs && inr 0 64 t) = false) : acode x hs t = 2 := by rw [acode, if_pos h, if_neg (by rw [h2]; simp)]
theorem acode_7 {x : SGate} {hs : List Int} {t : Int} (h : okGate x = true) (h2 : (allIn 0 1000 hs && inr 0 64 t) = true) (h3 : ¬ hs.length ≤ 64) : acode x hs t = 7 := by rw [acode, if_pos h, if_pos h2, if_neg h3]
theorem acode_ok {x : SGate} {hs : List Int} {t : Int} (h : okGate x = true) (h2 : (allIn 0 1000 hs && inr 0 64 t) = true) (h3 : hs.length ≤ 64) : acode x hs t = 0 := by rw [acode, if_pos h, if_pos h2, if_pos h3]
theorem codeGate_any (x : SGate) (hs : List Int) (b c : Nat) (t : Int) (w : World) (A : Arr intc 1 w b hs) (hn : hs.length ≤ 1048576) (hf : x.Id.size ≤ 9223372036854775807) :
    Calls Try.prog 64 #[.agg #[.string x.Id, .int .i64 x.Shut, .int .i64 x.Open, .int .i64 x.Hold, .bool x.Shuts, .int .i64 x.Calm], .slice (some ⟨b, 0, none⟩) hs.length c, .int .i64 t] w fun e w' => e = .returned (.int .i64 (acode x hs t)) ∧ Below w.heap.size w w' := by
  have HA := Lib.hid A
  clear A
  go_enter Try.func64, Try.ntmps64
  go_wp2_with fail
  refine calls_box_out ?_
  intro W hbw B
  have HA2 := Lib.hid (HA.out.below hbw)
  refine (validGate_any x _ hf).mono ?_
  rintro e w1 ⟨rfl, hb1⟩
  have hbw := Bel.trans hbw hb1
  have HA3 := Lib.hid (HA2.out.below hb1)
  clear HA HA2 hb1 B
  go_wp2_with (first | (go_at_call 78; refine (allWithin_any hs b c 0 1000 _ HA3.out hn).mono ?_; rintro e w2 ⟨rfl, hb2⟩; have hbw := Bel.trans hbw hb2) | (go_at_call 56; refine (within_any _ _ _ _).mono ?_; rintro e w' ⟨rfl, rfl⟩))
  all_goals
    go_ret
    refine ⟨?_, hbw⟩
    first
      | exact ret_int (acode_1 (by first | assumption | exact not_f (by assumption) | exact not_t (by assumption))).symm
      | exact ret_int (acode_2 (by first | assumption | exact not_f (by assumption) | exact not_t (by assumption)) (by simp_all)).symm
      | exact ret_int (acode_7 (by first | assumption | exact not_f (by assumption) | exact not_t (by assumption)) (by simp_all) (by omega)).symm
      | exact ret_int (acode_ok (by first | assumption | exact not_f (by assumption) | exact not_t (by assumption)) (by simp_all) (by omega)).symm
theorem stepGate_any (x : SGate) (h : Int) (w : World) (hx : bdGate x) : Calls Try.prog 83 #[.agg #[.string x.Id, .int .i64 x.Shut, .int .i64 x.Open, .int .i64 x.Hold, .bool x.Shuts, .int .i64 x.Calm], .int .i64 h] w fun e w' => e = .returned (.agg #[.string (stepG x h).Id, .int .i64 (stepG x h).Shut, .int .i64 (stepG x h).Open, .int .i64 (stepG x h).Hold, .bool (stepG x h).Shuts, .int .i64 (stepG x h).Calm]) ∧ Below w.heap.size w w' := by
  unfold bdGate at hx
  cases hS : x.Shuts
  · have e1 := stepG_0 (h := h) hS
    have E := Lib.hid e1
    clear e1
    go_enter Try.func83, Try.ntmps83
    go_wp2
    refine bodyPost_ret (v := .agg #[.string x.Id, .int .i64 x.Shut, .int .i64 x.Open, .int .i64 x.Hold, .bool (decide (x.Shut ≤ h)), .int .i64 x.Calm]) (by simp [results, Try.results83, go_sem]) rfl ⟨by rw [E.out], ?_⟩
    exact (by repeat (first | (with_reducible assumption) | (with_reducible exact Below.refl _ _) | (with_reducible refine Bel.alloc ?_ _) | (with_reducible refine Below.drew ?_) | (with_reducible refine Bel.drewN ?_ _) | (with_reducible refine Bel.setCell ?_ (by (try simp) <;> omega) _) | (with_reducible refine Bel.trans ?_ (by assumption))))
  · go_enter Try.func83, Try.ntmps83
    go_wp2
    · refine bodyPost_ret (v := .agg #[.string x.Id, .int .i64 x.Shut, .int .i64 x.Open, .int .i64 x.Hold, .bool true, .int .i64 0]) (by simp [results, Try.results83, go_sem]) rfl ⟨by rw [stepG_1 hS (by omega)], ?_⟩
      exact (by repeat (first | (with_reducible assumption) | (with_reducible exact Below.refl _ _) | (with_reducible refine Bel.alloc ?_ _) | (with_reducible refine Below.drew ?_) | (with_reducible refine Bel.drewN ?_ _) | (with_reducible refine Bel.setCell ?_ (by (try simp) <;> omega) _) | (with_reducible refine Bel.trans ?_ (by assumption))))
    · have hh : x.Calm + 1 = x.Hold := by first | omega | (simpa using ‹(x.Calm + 1 == x.Hold) = true›)
      refine bodyPost_ret (v := .agg #[.string x.Id, .int .i64 x.Shut, .int .i64 x.Open, .int .i64 x.Hold, .bool false, .int .i64 0]) (by simp [results, Try.results83, go_sem]) rfl ⟨by rw [stepG_2 hS (by omega) hh], ?_⟩
      exact (by repeat (first | (with_reducible assumption) | (with_reducible exact Below.refl _ _) | (with_reducible refine Bel.alloc ?_ _) | (with_reducible refine Below.drew ?_) | (with_reducible refine Bel.drewN ?_ _) | (with_reducible refine Bel.setCell ?_ (by (try simp) <;> omega) _) | (with_reducible refine Bel.trans ?_ (by assumption))))
    · have hh : ¬ x.Calm + 1 = x.Hold := by first | omega | (simpa using ‹(x.Calm + 1 == x.Hold) = false›)
      refine bodyPost_ret (v := .agg #[.string x.Id, .int .i64 x.Shut, .int .i64 x.Open, .int .i64 x.Hold, .bool true, .int .i64 (x.Calm + 1)]) (by simp [results, Try.results83, go_sem]) rfl ⟨by rw [stepG_3 hS (by omega) hh], ?_⟩
      exact (by repeat (first | (with_reducible assumption) | (with_reducible exact Below.refl _ _) | (with_reducible refine Bel.alloc ?_ _) | (with_reducible refine Below.drew ?_) | (with_reducible refine Bel.drewN ?_ _) | (with_reducible refine Bel.setCell ?_ (by (try simp) <;> omega) _) | (with_reducible refine Bel.trans ?_ (by assumption))))
theorem l21Step_any (x : SGate) (h : Int) (w : World) (hx : bdGate x) : Calls Try.prog 81 #[.agg #[.string x.Id, .int .i64 x.Shut, .int .i64 x.Open, .int .i64 x.Hold, .bool x.Shuts, .int .i64 x.Calm], .int .i64 h] w fun e w' => e = .returned (.agg #[.string (stepG x h).Id, .int .i64 (stepG x h).Shut, .int .i64 (stepG x h).Open, .int .i64 (stepG x h).Hold, .bool (stepG x h).Shuts, .int .i64 (stepG x h).Calm]) ∧ Below w.heap.size w w' := by
  unfold bdGate at hx
  cases hS : x.Shuts
  · have e1 := stepG_0 (h := h) hS
    have E := Lib.hid e1
    clear e1
    go_enter Try.func81, Try.ntmps81
    go_wp2
    refine bodyPost_ret (v := .agg #[.string x.Id, .int .i64 x.Shut, .int .i64 x.Open, .int .i64 x.Hold, .bool (decide (x.Shut ≤ h)), .int .i64 x.Calm]) (by simp [results, Try.results81, go_sem]) rfl ⟨by rw [E.out], ?_⟩
    exact (by repeat (first | (with_reducible assumption) | (with_reducible exact Below.refl _ _) | (with_reducible refine Bel.alloc ?_ _) | (with_reducible refine Below.drew ?_) | (with_reducible refine Bel.drewN ?_ _) | (with_reducible refine Bel.setCell ?_ (by (try simp) <;> omega) _) | (with_reducible refine Bel.trans ?_ (by assumption))))
  · go_enter Try.func81, Try.ntmps81
    go_wp2
    · refine bodyPost_ret (v := .agg #[.string x.Id, .int .i64 x.Shut, .int .i64 x.Open, .int .i64 x.Hold, .bool true, .int .i64 0]) (by simp [results, Try.results81, go_sem]) rfl ⟨by rw [stepG_1 hS (by omega)], ?_⟩
      exact (by repeat (first | (with_reducible assumption) | (with_reducible exact Below.refl _ _) | (with_reducible refine Bel.alloc ?_ _) | (with_reducible refine Below.drew ?_) | (with_reducible refine Bel.drewN ?_ _) | (with_reducible refine Bel.setCell ?_ (by (try simp) <;> omega) _) | (with_reducible refine Bel.trans ?_ (by assumption))))
    · have hh : x.Calm + 1 = x.Hold := by first | omega | (simpa using ‹(x.Calm + 1 == x.Hold) = true›)
      refine bodyPost_ret (v := .agg #[.string x.Id, .int .i64 x.Shut, .int .i64 x.Open, .int .i64 x.Hold, .bool false, .int .i64 0]) (by simp [results, Try.results81, go_sem]) rfl ⟨by rw [stepG_2 hS (by omega) hh], ?_⟩
      exact (by repeat (first | (with_reducible assumption) | (with_reducible exact Below.refl _ _) | (with_reducible refine Bel.alloc ?_ _) | (with_reducible refine Below.drew ?_) | (with_reducible refine Bel.drewN ?_ _) | (with_reducible refine Bel.setCell ?_ (by (try simp) <;> omega) _) | (with_reducible refine Bel.trans ?_ (by assumption))))
    · have hh : ¬ x.Calm + 1 = x.Hold := by first | omega | (simpa using ‹(x.Calm + 1 == x.Hold) = false›)
      refine bodyPost_ret (v := .agg #[.string x.Id, .int .i64 x.Shut, .int .i64 x.Open, .int .i64 x.Hold, .bool true, .int .i64 (x.Calm + 1)]) (by simp [results, Try.results81, go_sem]) rfl ⟨by rw [stepG_3 hS (by omega) hh], ?_⟩
      exact (by repeat (first | (with_reducible assumption) | (with_reducible exact Below.refl _ _) | (with_reducible refine Bel.alloc ?_ _) | (with_reducible refine Below.drew ?_) | (with_reducible refine Bel.drewN ?_ _) | (with_reducible refine Bel.setCell ?_ (by (try simp) <;> omega) _) | (with_reducible refine Bel.trans ?_ (by assumption))))
theorem allIn_no {lo hi : Int} {xs : List Int} {k : Nat} (hk : k < xs.length) (h : inr lo hi xs[k] = false) : allIn lo hi xs = false := by
  rw [← allIn_any]; simp only [Bool.not_eq_false', List.any_eq_true]; exact ⟨xs[k], List.getElem_mem hk, by rw [h]; rfl⟩
theorem allIn_yes {lo hi : Int} {xs : List Int} (h : ∀ k (hk : k < xs.length), inr lo hi xs[k] = true) : allIn lo hi xs = true := by
  rw [← allIn_any]; simp only [Bool.not_eq_true', List.any_eq_false]
  intro n hn
  obtain ⟨k, hk, rfl⟩ := List.getElem_of_mem hn
  rw [h k hk]; simp
theorem l21Ask_any (x : SGate) (hs : List Int) (b c g o : Nat) (w : World) (A : Arr intc 1 w b hs) (p0 : w.cell? ⟨g, o, none⟩ = some (.string x.Id)) (p1 : w.cell? ⟨g, o + 1, none⟩ = some (.int .i64 x.Shut)) (p2 : w.cell? ⟨g, o + 2, none⟩ = some (.int .i64 x.Open)) (p3 : w.cell? ⟨g, o + 3, none⟩ = some (.int .i64 x.Hold)) (p4 : w.cell? ⟨g, o + 4, none⟩ = some (.bool x.Shuts)) (p5 : w.cell? ⟨g, o + 5, none⟩ = some (.int .i64 x.Calm)) (hn : hs.length ≤ 1048576) (hf : x.Id.size ≤ 9223372036854775807) :
    Calls Try.prog 62 #[.pointer (some ⟨g, o, none⟩), .slice (some ⟨b, 0, none⟩) hs.length c] w fun e w' => e = .returned (.int .i64 (acode x hs 0)) ∧ Below w.heap.size w w' := by
  have HA := Lib.hid A
  clear A
  cases hok : okGate x
  · have hac := acode_1 (hs := hs) (t := 0) hok
    have HAC := Lib.hid hac
    have HOK := Lib.hid hok
    clear hac hok
    go_enter Try.func62, Try.ntmps62
    go_wp2_with (go_at_call 68; refine (Calls.boolIs HOK.out (l21Ok_any x g o _ p0 p1 p2 p3 p4 p5 hf)).mono ?_; rintro e w1 ⟨rfl, hb1⟩)
    go_ret
    exact ⟨ret_int HAC.out.symm, hb1⟩
  · have HOK := Lib.hid hok
    clear hok
    go_enter Try.func62, Try.ntmps62
    go_wp2_with (go_at_call 68; refine (Calls.boolIs HOK.out (l21Ok_any x g o _ p0 p1 p2 p3 p4 p5 hf)).mono ?_; rintro e w1 ⟨rfl, hb1⟩)
    clear p0 p1 p2 p3 p4 p5
    go_loopw [5] (fun i wr => ∃ k : Nat, k ≤ hs.length ∧ i = .int .i64 k ∧ (∀ j (hj : j < hs.length), j < k → inr 0 1000 hs[j] = true) ∧ Below w.heap.size w wr) (fun i wr => hs.length - (intOf i).toNat)
    case atStart => exact ⟨0, by omega, rfl, fun j _ h0 => absurd h0 (Nat.not_lt_zero j), hb1⟩
    case round =>
      obtain ⟨k, hk, rfl, hall, hbel⟩ := hrel
      have HALL := Lib.hid hall
      clear hall
      by_cases hlt : k < hs.length
      · have h0 : wr.cell? ⟨b, k, none⟩ = some (.int .i64 hs[k]) := (HA.out.below hbel).get hlt 0 k rfl (by omega)
        cases hq : inr 0 1000 hs[k]
        · have hno := acode_2 (t := 0) HOK.out (by rw [allIn_no hlt hq]; rfl)
          have HNO := Lib.hid hno
          have HQ := Lib.hid hq
          clear hno hq
          go_wp2_with (go_at_call 80; refine (Calls.boolIs HQ.out (l21Hazard_any _ _)).mono ?_; rintro e w' ⟨rfl, rfl⟩)
          go_ret
          exact ⟨ret_int HNO.out.symm, hbel⟩
        · have HQ := Lib.hid hq
          clear hq
          go_wp2_with (go_at_call 80; refine (Calls.boolIs HQ.out (l21Hazard_any _ _)).mono ?_; rintro e w' ⟨rfl, rfl⟩)
          go_roundw
          case rel => exact ⟨k + 1, by omega, by go_num, fun j hj hjk => by by_cases e : j = k; (subst e; exact HQ.out); exact HALL.out j hj (by omega), hbel⟩
          case measure => simp [intOf]; omega
      · obtain rfl : k = hs.length := by omega
        have hai : (allIn 0 1000 hs && inr 0 64 0) = true := by rw [allIn_yes fun j hj => HALL.out j hj hj]; rfl
        have HAI := Lib.hid hai
        clear hai
        go_wp2
        all_goals
          go_ret
          refine ⟨?_, hbel⟩
          first
            | exact ret_int (acode_7 HOK.out HAI.out (by omega)).symm
            | exact ret_int (acode_ok HOK.out HAI.out (by omega)).symm
end Go.Proofs.Ytinijfdopkohfaa
