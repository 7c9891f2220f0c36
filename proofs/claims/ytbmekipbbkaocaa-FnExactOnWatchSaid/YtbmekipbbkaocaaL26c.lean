/- Chapter 26: who watches, who is on call, the hours when nobody watches. -/
import Derived.Test.YtbmekipbbkaocaaL26
import Derived.Test.YtbmekipbbkaocaaApp
namespace Go.Proofs.Ytbmekipbbkaocaa
set_option linter.unusedSimpArgs false
set_option linter.unusedVariables false
open Go.RowKit
set_option maxHeartbeats 400000
set_option maxRecDepth 100000
def qAt (hour : Int) (oc : Bool) (x : SWatch) : Bool := (x.OnCall == oc) && decide (x.Start ≤ hour) && decide (hour < x.Start + x.Hours)
theorem qAt_1 {hour : Int} {oc : Bool} {x : SWatch} (h : x.OnCall = !oc) : qAt hour oc x = false := by rw [qAt, h]; cases oc <;> rfl
theorem qAt_2 {hour : Int} {oc : Bool} {x : SWatch} (h : ¬ x.Start ≤ hour) : qAt hour oc x = false := by rw [qAt, decide_eq_false h]; simp
theorem qAt_3 {hour : Int} {oc : Bool} {x : SWatch} (h : ¬ hour < x.Start + x.Hours) : qAt hour oc x = false := by rw [qAt, decide_eq_false h]; simp
theorem qAt_4 {hour : Int} {oc : Bool} {x : SWatch} (h1 : x.OnCall = oc) (h2 : x.Start ≤ hour) (h3 : hour < x.Start + x.Hours) : qAt hour oc x = true := by rw [qAt, h1, decide_eq_true h2, decide_eq_true h3]; cases oc <;> rfl
def nameOf (x : SWatch) : ByteArray := x.Person
theorem personsF_any (xs : List SWatch) (b c : Nat) (hour : Int) (w : World) (A : Arr SWatch.cells 4 w b xs) (hv : vlWatch xs = true) :
    Calls Try.prog 43 #[.slice (some ⟨b, 0, none⟩) xs.length c, .int .i64 hour, .bool false] w fun e w' => (∃ v, e = .returned v ∧ Row strc 1 9 w' w.heap.size v (selL (qAt hour false) nameOf xs xs.length)) ∧ Below w.heap.size w w' := by
  have HA := Lib.hid A
  have hlen := vlWatch_len hv
  have HV := Lib.hid hv
  clear A hv
  go_enter Try.func43, Try.ntmps43
  go_wp2_with fail
  go_loopw [7, 12] (fun v i wr => ∃ k : Nat, k ≤ xs.length ∧ i = .int .i64 k ∧ Row strc 1 9 wr w.heap.size v (selL (qAt hour false) nameOf xs k) ∧ Below w.heap.size w wr) (fun _ i wr => xs.length - (intOf i).toNat)
  case atStart => exact ⟨0, by omega, rfl, Row.nil, Below.refl _ _⟩
  case round =>
    obtain ⟨k, hk, rfl, hrow, hbel⟩ := hrel
    have HR := Lib.hid hrow
    clear hrow
    by_cases hlt : k < xs.length
    · obtain ⟨e0, e1, e2, e3⟩ := SWatch.elem (HA.out.below hbel) hlt
      have hok := vlWatch_ok HV.out k hlt
      have hbd := okWatch_bd hok
      have hle := selL_len (qAt hour false) nameOf xs k
      have HO := Lib.hid hok
      clear hok
      cases ho : xs[k].OnCall
      · have H0 := Lib.hid ho
        by_cases h1 : xs[k].Start ≤ hour
        · have hend : Hid (∀ W', Calls Try.prog 46 #[.agg #[.string xs[k].Person, .int .i64 xs[k].Start, .int .i64 xs[k].Hours, .bool xs[k].OnCall]] W' fun e w' => e = .returned (.int .i64 (xs[k].Start + xs[k].Hours)) ∧ Below W'.heap.size W' w') := fun W' => end_any xs[k] W' HO.out
          by_cases h2 : hour < xs[k].Start + xs[k].Hours
          · rw [ho] at e3
            have hqq := qAt_4 (oc := false) ho h1 h2
            have HQ := Lib.hid hqq
            have hE := hend.out
            rw [ho] at hE
            have HE := Lib.hid hE
            clear ho hqq hE
            go_wp2_with fail
            refine calls_box_out ?_
            intro W hbw B
            refine (HE.out _).mono ?_
            rintro e w2 ⟨rfl, hb2⟩
            have hbel := Bel.trans (Bel.trans hbel hbw) hb2
            have HR := Lib.hid ((HR.out.below hbw).below hb2)
            have d0 : w2.cell? ⟨wr.heap.size, 0, none⟩ = some (.string xs[k].Person) := (B.below hb2).cell 0
            have hsz := hbel.size
            clear e0 e1 e2 e3 B
            go_wp2_with (at_builtin; refine wpList_pushS rfl _ _ 33 rfl w.heap.size 9 Try.underlying33 (by kernel_rfl) u7 (selL (qAt hour false) nameOf xs k) xs[k].Person rfl HR.out 1 rfl (by omega) hsz ?_; intro v' w3 hr3 hg3 hb4)
            go_roundw
            case rel => exact ⟨k + 1, by omega, by go_num, by rw [selL_yes hlt HQ.out]; exact hr3, hbel.trans hb4⟩
            case measure => simp [intOf]; omega
          · rw [ho] at e3
            have hE := hend.out
            rw [ho] at hE
            have HE := Lib.hid hE
            clear ho hE
            go_wp2_with fail
            refine calls_box_out ?_
            intro W hbw B
            refine (HE.out _).mono ?_
            rintro e w2 ⟨rfl, hb2⟩
            have hbel := Bel.trans (Bel.trans hbel hbw) hb2
            have HR := Lib.hid ((HR.out.below hbw).below hb2)
            clear e0 e1 e2 e3 B
            go_wp2
            go_roundw
            case rel => exact ⟨k + 1, by omega, by go_num, by rw [selL_no hlt (qAt_3 (by omega))]; exact HR.out, hbel⟩
            case measure => simp [intOf]; omega
        · rw [ho] at e3
          clear ho
          go_wp2
          go_roundw
          case rel => exact ⟨k + 1, by omega, by go_num, by rw [selL_no hlt (qAt_2 (by omega))]; exact HR.out.alloc _, (by repeat (first | (with_reducible assumption) | (with_reducible exact Below.refl _ _) | (with_reducible refine Bel.alloc ?_ _) | (with_reducible refine Below.drew ?_) | (with_reducible refine Bel.drewN ?_ _) | (with_reducible refine Bel.setCell ?_ (by (try simp) <;> omega) _) | (with_reducible refine Bel.trans ?_ (by assumption))))⟩
          case measure => simp [intOf]; omega
      · rw [ho] at e3
        have H0 := Lib.hid ho
        clear ho
        go_wp2
        go_roundw
        case rel => exact ⟨k + 1, by omega, by go_num, by rw [selL_no hlt (by rw [qAt, H0.out]; rfl)]; exact HR.out.alloc _, (by repeat (first | (with_reducible assumption) | (with_reducible exact Below.refl _ _) | (with_reducible refine Bel.alloc ?_ _) | (with_reducible refine Below.drew ?_) | (with_reducible refine Bel.drewN ?_ _) | (with_reducible refine Bel.setCell ?_ (by (try simp) <;> omega) _) | (with_reducible refine Bel.trans ?_ (by assumption))))⟩
        case measure => simp [intOf]; omega
    · obtain rfl : k = xs.length := by omega
      go_wp2
      go_ret
      exact ⟨⟨_, rfl, HR.out⟩, hbel⟩
theorem personsT_any (xs : List SWatch) (b c : Nat) (hour : Int) (w : World) (A : Arr SWatch.cells 4 w b xs) (hv : vlWatch xs = true) :
    Calls Try.prog 43 #[.slice (some ⟨b, 0, none⟩) xs.length c, .int .i64 hour, .bool true] w fun e w' => (∃ v, e = .returned v ∧ Row strc 1 9 w' w.heap.size v (selL (qAt hour true) nameOf xs xs.length)) ∧ Below w.heap.size w w' := by
  have HA := Lib.hid A
  have hlen := vlWatch_len hv
  have HV := Lib.hid hv
  clear A hv
  go_enter Try.func43, Try.ntmps43
  go_wp2_with fail
  go_loopw [7, 12] (fun v i wr => ∃ k : Nat, k ≤ xs.length ∧ i = .int .i64 k ∧ Row strc 1 9 wr w.heap.size v (selL (qAt hour true) nameOf xs k) ∧ Below w.heap.size w wr) (fun _ i wr => xs.length - (intOf i).toNat)
  case atStart => exact ⟨0, by omega, rfl, Row.nil, Below.refl _ _⟩
  case round =>
    obtain ⟨k, hk, rfl, hrow, hbel⟩ := hrel
    have HR := Lib.hid hrow
    clear hrow
    by_cases hlt : k < xs.length
    · obtain ⟨e0, e1, e2, e3⟩ := SWatch.elem (HA.out.below hbel) hlt
      have hok := vlWatch_ok HV.out k hlt
      have hbd := okWatch_bd hok
      have hle := selL_len (qAt hour true) nameOf xs k
      have HO := Lib.hid hok
      clear hok
      cases ho : xs[k].OnCall
      · rw [ho] at e3
        have H0 := Lib.hid ho
        clear ho
        go_wp2
        go_roundw
        case rel => exact ⟨k + 1, by omega, by go_num, by rw [selL_no hlt (by rw [qAt, H0.out]; rfl)]; exact HR.out.alloc _, (by repeat (first | (with_reducible assumption) | (with_reducible exact Below.refl _ _) | (with_reducible refine Bel.alloc ?_ _) | (with_reducible refine Below.drew ?_) | (with_reducible refine Bel.drewN ?_ _) | (with_reducible refine Bel.setCell ?_ (by (try simp) <;> omega) _) | (with_reducible refine Bel.trans ?_ (by assumption))))⟩
        case measure => simp [intOf]; omega
      · have H0 := Lib.hid ho
        by_cases h1 : xs[k].Start ≤ hour
        · have hend : Hid (∀ W', Calls Try.prog 46 #[.agg #[.string xs[k].Person, .int .i64 xs[k].Start, .int .i64 xs[k].Hours, .bool xs[k].OnCall]] W' fun e w' => e = .returned (.int .i64 (xs[k].Start + xs[k].Hours)) ∧ Below W'.heap.size W' w') := fun W' => end_any xs[k] W' HO.out
          by_cases h2 : hour < xs[k].Start + xs[k].Hours
          · rw [ho] at e3
            have hqq := qAt_4 (oc := true) ho h1 h2
            have HQ := Lib.hid hqq
            have hE := hend.out
            rw [ho] at hE
            have HE := Lib.hid hE
            clear ho hqq hE
            go_wp2_with fail
            refine calls_box_out ?_
            intro W hbw B
            refine (HE.out _).mono ?_
            rintro e w2 ⟨rfl, hb2⟩
            have hbel := Bel.trans (Bel.trans hbel hbw) hb2
            have HR := Lib.hid ((HR.out.below hbw).below hb2)
            have d0 : w2.cell? ⟨wr.heap.size, 0, none⟩ = some (.string xs[k].Person) := (B.below hb2).cell 0
            have hsz := hbel.size
            clear e0 e1 e2 e3 B
            go_wp2_with (at_builtin; refine wpList_pushS rfl _ _ 33 rfl w.heap.size 9 Try.underlying33 (by kernel_rfl) u7 (selL (qAt hour true) nameOf xs k) xs[k].Person rfl HR.out 1 rfl (by omega) hsz ?_; intro v' w3 hr3 hg3 hb4)
            go_roundw
            case rel => exact ⟨k + 1, by omega, by go_num, by rw [selL_yes hlt HQ.out]; exact hr3, hbel.trans hb4⟩
            case measure => simp [intOf]; omega
          · rw [ho] at e3
            have hE := hend.out
            rw [ho] at hE
            have HE := Lib.hid hE
            clear ho hE
            go_wp2_with fail
            refine calls_box_out ?_
            intro W hbw B
            refine (HE.out _).mono ?_
            rintro e w2 ⟨rfl, hb2⟩
            have hbel := Bel.trans (Bel.trans hbel hbw) hb2
            have HR := Lib.hid ((HR.out.below hbw).below hb2)
            clear e0 e1 e2 e3 B
            go_wp2
            go_roundw
            case rel => exact ⟨k + 1, by omega, by go_num, by rw [selL_no hlt (qAt_3 (by omega))]; exact HR.out, hbel⟩
            case measure => simp [intOf]; omega
        · rw [ho] at e3
          clear ho
          go_wp2
          go_roundw
          case rel => exact ⟨k + 1, by omega, by go_num, by rw [selL_no hlt (qAt_2 (by omega))]; exact HR.out.alloc _, (by repeat (first | (with_reducible assumption) | (with_reducible exact Below.refl _ _) | (with_reducible refine Bel.alloc ?_ _) | (with_reducible refine Below.drew ?_) | (with_reducible refine Bel.drewN ?_ _) | (with_reducible refine Bel.setCell ?_ (by (try simp) <;> omega) _) | (with_reducible refine Bel.trans ?_ (by assumption))))⟩
          case measure => simp [intOf]; omega
    · obtain rfl : k = xs.length := by omega
      go_wp2
      go_ret
      exact ⟨⟨_, rfl, HR.out⟩, hbel⟩
theorem watchHour_any (n : Int) (w : World) : Calls Try.prog 42 #[.int .i64 n] w fun e w' => e = .returned (.bool (inr 0 10100 n)) ∧ w = w' := by
  go_enter Try.func42, Try.ntmps42
  go_wp2_with (go_at_call 50; refine (within_any _ _ _ _).mono ?_; rintro e w' ⟨rfl, rfl⟩)
  go_ret
  exact ⟨rfl, rfl⟩
theorem l26Hour_any (n : Int) (w : World) : Calls Try.prog 39 #[.int .i64 n] w fun e w' => e = .returned (.bool (inr 0 10100 n)) ∧ w = w' := by
  go_enter Try.func39, Try.ntmps39
  go_wp2_with (go_at_call 49; refine (l00In_any _ _ _ _).mono ?_; rintro e w' ⟨rfl, rfl⟩)
  go_ret
  exact ⟨rfl, rfl⟩
def inW (hour : Int) (x : SWatch) : Bool := decide (x.Start ≤ hour) && decide (hour < x.Start + x.Hours)
theorem l26At_any (x : SWatch) (b o : Nat) (hour : Int) (w : World) (p0 : w.cell? ⟨b, o, none⟩ = some (.string x.Person)) (p1 : w.cell? ⟨b, o + 1, none⟩ = some (.int .i64 x.Start)) (p2 : w.cell? ⟨b, o + 2, none⟩ = some (.int .i64 x.Hours)) (p3 : w.cell? ⟨b, o + 3, none⟩ = some (.bool x.OnCall)) (h : okWatch x = true) :
    Calls Try.prog 40 #[.pointer (some ⟨b, o, none⟩), .int .i64 hour] w fun e w' => e = .returned (.bool (inW hour x)) ∧ Below w.heap.size w w' := by
  have hb := okWatch_bd h
  clear h
  by_cases h1 : x.Start ≤ hour
  · have h1' : decide (x.Start ≤ hour) = true := decide_eq_true h1
    go_enter Try.func40, Try.ntmps40
    go_wp2_with fail
    go_quiet (fail)
    go_wp2
    go_ret
    exact ⟨ret_bool (by rw [inW, decide_eq_true h1]; rfl), (by repeat (first | (with_reducible assumption) | (with_reducible exact Below.refl _ _) | (with_reducible refine Bel.alloc ?_ _) | (with_reducible refine Below.drew ?_) | (with_reducible refine Bel.drewN ?_ _) | (with_reducible refine Bel.setCell ?_ (by (try simp) <;> omega) _) | (with_reducible refine Bel.trans ?_ (by assumption))))⟩
  · have h1' : decide (x.Start ≤ hour) = false := decide_eq_false h1
    go_enter Try.func40, Try.ntmps40
    go_wp2_with fail
    go_quiet (fail)
    go_wp2
    go_ret
    exact ⟨ret_bool (by rw [inW, decide_eq_false (show ¬ x.Start ≤ hour by omega)]; rfl), (by repeat (first | (with_reducible assumption) | (with_reducible exact Below.refl _ _) | (with_reducible refine Bel.alloc ?_ _) | (with_reducible refine Below.drew ?_) | (with_reducible refine Bel.drewN ?_ _) | (with_reducible refine Bel.setCell ?_ (by (try simp) <;> omega) _) | (with_reducible refine Bel.trans ?_ (by assumption))))⟩
theorem qAt_in {hour : Int} {oc : Bool} {x : SWatch} (h1 : x.OnCall = oc) : qAt hour oc x = inW hour x := by rw [qAt, h1, inW]; cases oc <;> rfl
end Go.Proofs.Ytbmekipbbkaocaa
