/- slices.ContainsFunc over integers, and the program's allWithin. -/
import Derived.Test.YtfbnckgfgaddkaaCom
namespace Go.Proofs.Ytfbnckgfgaddkaa
set_option linter.unusedSimpArgs false
set_option linter.unusedVariables false
open Go.RowKit
set_option maxHeartbeats 400000
def hasAt (q : Int → Bool) (xs : List Int) (i : Nat) : Bool := if h : i < xs.length then q xs[i] else false
theorem hasAt_at {q : Int → Bool} {xs : List Int} {k : Nat} (h : k < xs.length) : hasAt q xs k = q xs[k] := by rw [hasAt, dif_pos h]
def idxOf (q : Int → Bool) (xs : List Int) : Int := match fst (hasAt q xs) xs.length with
  | some k => k
  | none => -1
theorem idxOf_none {q : Int → Bool} {xs : List Int} (h : ∀ j, j < xs.length → hasAt q xs j = false) : idxOf q xs = -1 := by rw [idxOf, fst_none h]
theorem idxOf_some {q : Int → Bool} {xs : List Int} {k : Nat} (hk : k < xs.length) (h : ∀ j, j < k → hasAt q xs j = false) (hp : hasAt q xs k = true) : idxOf q xs = k := by rw [idxOf, fst_some hk h hp]
theorem idxOf_any (q : Int → Bool) (xs : List Int) : decide (0 ≤ idxOf q xs) = xs.any q := by
  cases hx : xs.any q
  · rw [List.any_eq_false] at hx
    rw [idxOf_none fun j hj => by rw [hasAt_at hj]; simpa using hx _ (List.getElem_mem hj)]; rfl
  · have : ∃ k, k < xs.length ∧ hasAt q xs k = true := by
      rw [List.any_eq_true] at hx
      obtain ⟨x, hm, hq⟩ := hx
      obtain ⟨k, hk, rfl⟩ := List.getElem_of_mem hm
      exact ⟨k, hk, by rw [hasAt_at hk]; exact hq⟩
    cases hf : fst (hasAt q xs) xs.length with
    | some k => rw [idxOf, hf]; simp
    | none =>
      obtain ⟨k, hk, hq⟩ := this
      unfold fst at hf
      rw [List.find?_eq_none] at hf
      exact absurd hq (hf k (List.mem_range.2 hk))
def allIn (lo hi : Int) (xs : List Int) : Bool := xs.all (inr lo hi)
theorem allIn_any (lo hi : Int) (xs : List Int) : (!(xs.any fun n => !inr lo hi n)) = allIn lo hi xs := by
  unfold allIn
  induction xs with
  | nil => rfl
  | cons x r ih => simp only [List.any_cons, List.all_cons, ← ih]; cases inr lo hi x <;> simp
theorem indexFunc_allW (xs : List Int) (b c : Nat) (v1 v2 : Value) (q : Int → Bool) (w : World) (A : Arr intc 1 w b xs) (hn : xs.length ≤ 1048576)
    (HQ : Hid (∀ n, Calls Try.prog 49 #[.int .i64 n, v1, v2] w fun e w' => e = .returned (.bool (q n)) ∧ w = w')) :
    Calls Try.prog 50 #[.slice (some ⟨b, 0, none⟩) xs.length c, .func (.func 49) #[] #[v1, v2]] w fun e w' => e = .returned (.int .i64 (idxOf q xs)) ∧ w = w' := by
  have HA := Lib.hid A
  clear A
  go_enter Try.func50, Try.ntmps50
  go_wp2_with fail
  go_loop [8] (fun i => ∃ k : Nat, k ≤ xs.length ∧ i = .int .i64 k ∧ ∀ j, j < k → hasAt q xs j = false) (fun i => xs.length - (intOf i).toNat)
  case atStart => exact ⟨0, by omega, rfl, fun j hj => absurd hj (Nat.not_lt_zero j)⟩
  case round =>
    obtain ⟨k, hk, rfl, hall⟩ := hrel
    have HL := Lib.hid hall
    clear hall
    by_cases hlt : k < xs.length
    · have c0 := HA.out.get hlt 0 k rfl (by omega)
      go_wp2_with fail
      cases hq : q xs[k]
      · have HP := Lib.hid hq
        clear hq
        refine (Calls.boolIs HP.out (HQ.out _)).mono ?_
        rintro e w' ⟨rfl, rfl⟩
        go_wp2
        go_round
        case rel => exact ⟨k + 1, by omega, by go_num, upto_snoc HL.out (by rw [hasAt_at hlt]; exact HP.out)⟩
        case measure => simp [intOf]; omega
      · have HP := Lib.hid hq
        clear hq
        refine (Calls.boolIs HP.out (HQ.out _)).mono ?_
        rintro e w' ⟨rfl, rfl⟩
        go_wp2
        go_ret
        exact ⟨ret_int (idxOf_some hlt HL.out (by rw [hasAt_at hlt]; exact HP.out)).symm, rfl⟩
    · obtain rfl : k = xs.length := by omega
      go_wp2
      go_ret
      exact ⟨ret_int (idxOf_none HL.out).symm, rfl⟩
theorem containsFunc_allW (xs : List Int) (b c : Nat) (v1 v2 : Value) (q : Int → Bool) (w : World) (A : Arr intc 1 w b xs) (hn : xs.length ≤ 1048576)
    (HQ : Hid (∀ n, Calls Try.prog 49 #[.int .i64 n, v1, v2] w fun e w' => e = .returned (.bool (q n)) ∧ w = w')) :
    Calls Try.prog 48 #[.slice (some ⟨b, 0, none⟩) xs.length c, .func (.func 49) #[] #[v1, v2]] w fun e w' => e = .returned (.bool (xs.any q)) ∧ w = w' := by
  have HA := Lib.hid A
  clear A
  go_enter Try.func48, Try.ntmps48
  go_wp2_with fail
  refine (indexFunc_allW xs b c v1 v2 q _ HA.out hn HQ).mono ?_
  rintro e w' ⟨rfl, rfl⟩
  go_wp2
  go_ret
  exact ⟨ret_bool (idxOf_any q xs), rfl⟩
theorem allWithin1_any (n lo hi : Int) (g1 g2 : Nat) (w : World) (h1 : w.cell? ⟨g1, 0, none⟩ = some (.int .i64 lo)) (h2 : w.cell? ⟨g2, 0, none⟩ = some (.int .i64 hi)) :
    Calls Try.prog 49 #[.int .i64 n, .pointer (some ⟨g1, 0, none⟩), .pointer (some ⟨g2, 0, none⟩)] w fun e w' => e = .returned (.bool (!inr lo hi n)) ∧ w = w' := by
  go_enter Try.func49, Try.ntmps49
  go_wp2_with (go_at_call 20; refine (within_any _ _ _ _).mono ?_; rintro e w' ⟨rfl, rfl⟩)
  go_ret
  exact ⟨rfl, rfl⟩
theorem allWithin_any (xs : List Int) (b c : Nat) (lo hi : Int) (w : World) (A : Arr intc 1 w b xs) (hn : xs.length ≤ 1048576) :
    Calls Try.prog 40 #[.slice (some ⟨b, 0, none⟩) xs.length c, .int .i64 lo, .int .i64 hi] w fun e w' => e = .returned (.bool (allIn lo hi xs)) ∧ Below w.heap.size w w' := by
  have HA := Lib.hid A
  clear A
  go_enter Try.func40, Try.ntmps40
  go_wp2_with fail
  refine calls_box_out2 ?_
  intro W hbw B1 B2
  refine (containsFunc_allW xs b c _ _ (fun n => !inr lo hi n) _ (HA.out.below hbw) hn (fun n => allWithin1_any n lo hi _ _ W (B1.cell 0) (B2.cell 0))).mono ?_
  rintro e w' ⟨rfl, rfl⟩
  go_wp2
  go_ret
  exact ⟨ret_bool (allIn_any lo hi xs), hbw⟩
end Go.Proofs.Ytfbnckgfgaddkaa
