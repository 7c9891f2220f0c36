/- Chapter 10: lists of stands: the weakest, and those that protect. -/
import Derived.Test.YtamolhhccfnlfaaL10
import Derived.Test.YtamolhhccfnlfaaApp
namespace Go.Proofs.Ytamolhhccfnlfaa
open Go.RowKit
set_option maxHeartbeats 1000000
set_option maxRecDepth 100000
theorem ValidStands_any (xs : List SStand) (b c : Nat) (w : World) (A : Arr SStand.cells 5 w b xs) (hn : xs.length ≤ 1048576) (hf : ∀ i (h : i < xs.length), xs[i].Id.size ≤ 9223372036854775807) :
    Calls Try.prog 103 #[.slice (some ⟨b, 0, none⟩) xs.length c] w fun e w' => e = .returned (.bool (vlStand xs)) ∧ Below w.heap.size w w' := by
  have HF := Lib.hid hf
  clear hf
  have hb := A.1
  by_cases hl : 16 < xs.length
  · go_enter Try.func103, Try.ntmps103
    go_wp2
    go_ret
    exact ⟨ret_bool (by rw [vlStand, decide_eq_false (by omega), Bool.and_false]), Below.refl _ _⟩
  · go_enter Try.func103, Try.ntmps103
    go_wp2
    go_loopw [10] (fun i wr => ∃ k : Nat, k ≤ xs.length ∧ i = .int .i64 k ∧ Below w.heap.size w wr ∧ (List.range k).all (atStand xs) = true) (fun i wr => xs.length - (intOf i).toNat)
    case atStart => exact ⟨0, by omega, rfl, Below.refl _ _, rfl⟩
    case round =>
      obtain ⟨k, hk, rfl, hbel, hall⟩ := hrel
      have HA := Lib.hid hall
      clear hall
      by_cases hlt : k < xs.length
      · obtain ⟨e0, e1, e2, e3, e4⟩ := SStand.elem (A.below hbel) hlt
        go_wp2_with fail
        refine wp_alloc_out ?_
        intro W hbw hsz hcl hfz
        clear e0 e1 e2 e3 e4
        have hlw : wr.heap.size < W.heap.size := by omega
        obtain ⟨p0, p1, p2, p3, p4⟩ := SStand.past (x := xs[k]) hcl hlw
        clear hcl hfz hsz
        have hbt := Bel.trans hbel hbw
        cases hv : okStand xs[k]
        · have HV := Lib.hid hv
          clear hv
          refine wp_region_past (by kernel_rfl) (by kernel_rfl) ?_
          repeat (go_big_quiet_step ((go_at_call 73; exact Past.callB _ HV.out (validStand_any xs[k] _ (HF.out k hlt)))))
          refine wpQuiet_nil ?_
          intro W1 hw'
          obtain ⟨⟨W_, hb1⟩, hw''⟩ := hw'
          subst hw''
          go_wp2
          go_ret
          exact ⟨ret_bool (by rw [vlStand_no hlt (atStand_bad hlt HV.out)]), Bel.trans hbt hb1⟩
        · have HV := Lib.hid hv
          clear hv
          by_cases h0 : k = 0
          · have hz : decide (0 < k) = false := by simp; omega
            have H0 := Lib.hid h0
            clear h0
            refine wp_region_past (by kernel_rfl) (by kernel_rfl) ?_
            repeat (go_big_quiet_step ((go_at_call 73; exact Past.callB _ HV.out (validStand_any xs[k] _ (HF.out k hlt)))))
            refine wpQuiet_nil ?_
            intro W1 hw'
            obtain ⟨⟨W_, hb1⟩, hw''⟩ := hw'
            subst hw''
            go_wp2
            go_roundw
            case rel => exact ⟨k+1, by omega, by go_num, Bel.trans hbt hb1, all_range_snoc HA.out (atStand_0 hlt HV.out H0.out)⟩
            case measure => simp [intOf]; omega
          · have hz : 0 < k := by omega
            have hz1 : (1 : Int) ≤ (k : Int) := by omega
            have hz2 : IntKind.i64.wrap ((k : Int) - 1) = (k : Int) - 1 := IntWalk.i64_in _ (by omega)
            have hz3 : ((k : Int) - 1).toNat = k - 1 := by omega
            obtain ⟨f0, f1, f2, f3, f4⟩ := SStand.elems (A.below hbt) (show k - 1 < xs.length by omega)
            cases hcm : strLe (xs[k]).Id (xs[k-1]).Id
            · have HC := Lib.hid hcm; obtain ⟨hc1, hc2, hc3⟩ := strLe_no hcm; clear hcm
              refine wp_region_past (by kernel_rfl) (by kernel_rfl) ?_
              repeat (go_big_quiet_step ((go_at_call 73; exact Past.callB _ HV.out (validStand_any xs[k] _ (HF.out k hlt)))))
              refine wpQuiet_nil ?_
              intro W1 hw'
              obtain ⟨⟨W_, hb1⟩, hw''⟩ := hw'
              subst hw''
              go_wp2
              go_roundw
              case rel => exact ⟨k+1, by omega, by go_num, Bel.trans hbt hb1, all_range_snoc HA.out (atStand_ok hlt HV.out HC.out)⟩
              case measure => simp [intOf]; omega
            · have HC := Lib.hid hcm; obtain ⟨hc1, hc2⟩ := strLe_yes hcm; clear hcm
              refine wp_region_past (by kernel_rfl) (by kernel_rfl) ?_
              repeat (go_big_quiet_step ((go_at_call 73; exact Past.callB _ HV.out (validStand_any xs[k] _ (HF.out k hlt)))))
              refine wpQuiet_nil ?_
              intro W1 hw'
              obtain ⟨⟨W_, hb1⟩, hw''⟩ := hw'
              subst hw''
              go_wp2
              go_ret
              exact ⟨ret_bool (by rw [vlStand_no hlt (atStand_no hlt hz HC.out)]), Bel.trans hbt hb1⟩
      · obtain rfl : k = xs.length := by omega
        go_wp2
        go_ret
        exact ⟨ret_bool (by rw [vlStand, HA.out, decide_eq_true (by omega)]; rfl), hbel⟩
theorem l10Ok_any (xs : List SStand) (b c : Nat) (w : World) (A : Arr SStand.cells 5 w b xs) (hn : xs.length ≤ 1048576) (hf : ∀ i (h : i < xs.length), xs[i].Id.size ≤ 9223372036854775807) :
    Calls Try.prog 102 #[.slice (some ⟨b, 0, none⟩) xs.length c] w fun e w' => e = .returned (.bool (vlStand xs)) ∧ Below w.heap.size w w' := by
  have HF := Lib.hid hf
  clear hf
  have hb := A.1
  go_enter Try.func102, Try.ntmps102
  go_wp2_with fail
  go_loopw [3] (fun i wr => ∃ k : Nat, k ≤ xs.length ∧ i = .int .i64 k ∧ Below w.heap.size w wr ∧ (List.range k).all (atStand xs) = true) (fun i wr => xs.length - (intOf i).toNat)
  case atStart => exact ⟨0, by omega, rfl, Below.refl _ _, rfl⟩
  case round =>
    obtain ⟨k, hk, rfl, hbel, hall⟩ := hrel
    have HA := Lib.hid hall
    clear hall
    by_cases hlt : k < xs.length
    · obtain ⟨p0, p1, p2, p3, p4⟩ := SStand.elems (A.below hbel) hlt
      go_wp2_with fail
      have hwf : ∀ p : Past wr, Calls Try.prog 68 #[.pointer (some ⟨b, k * 5, none⟩)] p.w fun e w' => e = .returned (.bool (okStand xs[k])) ∧ p.w = w' := fun p => l10One_any xs[k] b (k * 5) p.w (p0 p) (p1 p) (p2 p) (p3 p) (p4 p) (HF.out k hlt)
      have HP := Lib.hid hwf
      clear hwf
      cases hv : okStand xs[k]
      · have HV := Lib.hid hv
        clear hv
        refine wp_region_past (by kernel_rfl) (by kernel_rfl) ?_
        repeat (go_big_quiet_step ((go_at_call 68; exact Past.sameB _ HV.out (HP.out _))))
        refine wpQuiet_nil ?_
        intro W1 hw'
        obtain ⟨⟨W_, hb1⟩, hw''⟩ := hw'
        subst hw''
        go_wp2
        go_ret
        exact ⟨ret_bool (by rw [vlStand_no hlt (atStand_bad hlt HV.out)]), Bel.trans hbel hb1⟩
      · have HV := Lib.hid hv
        clear hv
        by_cases h0 : k = 0
        · have hz : decide (0 < k) = false := by simp; omega
          have H0 := Lib.hid h0
          clear h0
          refine wp_region_past (by kernel_rfl) (by kernel_rfl) ?_
          repeat (go_big_quiet_step ((go_at_call 68; exact Past.sameB _ HV.out (HP.out _))))
          refine wpQuiet_nil ?_
          intro W1 hw'
          obtain ⟨⟨W_, hb1⟩, hw''⟩ := hw'
          subst hw''
          go_wp2
          go_roundw
          case rel => exact ⟨k+1, by omega, by go_num, Bel.trans hbel hb1, all_range_snoc HA.out (atStand_0 hlt HV.out H0.out)⟩
          case measure => simp [intOf]; omega
        · have hz : 0 < k := by omega
          have hz1 : (1 : Int) ≤ (k : Int) := by omega
          have hz2 : IntKind.i64.wrap ((k : Int) - 1) = (k : Int) - 1 := IntWalk.i64_in _ (by omega)
          have hz3 : ((k : Int) - 1).toNat = k - 1 := by omega
          obtain ⟨f0, f1, f2, f3, f4⟩ := SStand.elems (A.below hbel) (show k - 1 < xs.length by omega)
          cases hcm : strLe (xs[k]).Id (xs[k-1]).Id
          · have HC := Lib.hid hcm; obtain ⟨hc1, hc2, hc3⟩ := strLe_no hcm; clear hcm
            refine wp_region_past (by kernel_rfl) (by kernel_rfl) ?_
            repeat (go_big_quiet_step ((go_at_call 68; exact Past.sameB _ HV.out (HP.out _))))
            refine wpQuiet_nil ?_
            intro W1 hw'
            obtain ⟨⟨W_, hb1⟩, hw''⟩ := hw'
            subst hw''
            go_wp2
            go_roundw
            case rel => exact ⟨k+1, by omega, by go_num, Bel.trans hbel hb1, all_range_snoc HA.out (atStand_ok hlt HV.out HC.out)⟩
            case measure => simp [intOf]; omega
          · have HC := Lib.hid hcm; obtain ⟨hc1, hc2⟩ := strLe_yes hcm; clear hcm
            refine wp_region_past (by kernel_rfl) (by kernel_rfl) ?_
            repeat (go_big_quiet_step ((go_at_call 68; exact Past.sameB _ HV.out (HP.out _))))
            refine wpQuiet_nil ?_
            intro W1 hw'
            obtain ⟨⟨W_, hb1⟩, hw''⟩ := hw'
            subst hw''
            go_wp2
            go_ret
            exact ⟨ret_bool (by rw [vlStand_no hlt (atStand_no hlt hz HC.out)]), Bel.trans hbel hb1⟩
    · obtain rfl : k = xs.length := by omega
      go_wp2
      go_ret
      exact ⟨ret_bool (by rw [vlStand, HA.out, Bool.true_and]; simp <;> omega), hbel⟩
theorem vlS_bd {xs : List SStand} (h : vlStand xs = true) : ∀ k (hk : k < xs.length), bdStand xs[k] := fun k hk => okStand_bd (vlStand_ok h k hk)
def prA (xs : List SStand) (s : Int) (i : Nat) : Int := match xs[i]? with | some x => prot x s | none => 0
theorem prA_eq {xs : List SStand} {s : Int} {i : Nat} (h : i < xs.length) : prA xs s i = prot xs[i] s := by simp [prA, h]
def wkI (xs : List SStand) (s : Int) : Nat → Nat
  | 0 => 0
  | k + 1 => if prA xs s k < prA xs s (wkI xs s k) then k else wkI xs s k
theorem wkI_yes {xs : List SStand} {s : Int} {k m : Nat} (hk : k < xs.length) (hm : wkI xs s k = m) (hmm : m < xs.length) (h : prot xs[k] s < prot xs[m] s) : wkI xs s (k + 1) = k := by
  rw [wkI, hm, prA_eq hk, prA_eq hmm, if_pos h]
theorem wkI_no {xs : List SStand} {s : Int} {k m : Nat} (hk : k < xs.length) (hm : wkI xs s k = m) (hmm : m < xs.length) (h : ¬ prot xs[k] s < prot xs[m] s) : wkI xs s (k + 1) = m := by
  rw [wkI, hm, prA_eq hk, prA_eq hmm, if_neg h]
theorem wkI_1 (xs : List SStand) (s : Int) : wkI xs s 1 = 0 := by rw [wkI, wkI]; exact if_neg (by omega)
def wkRes (xs : List SStand) (s : Int) : Int × Int × Int :=
  if vlStand xs then (if inr 0 2000 s then (if xs.length = 0 then (0, 0, 3) else ((wkI xs s xs.length : Int), prA xs s (wkI xs s xs.length), 0)) else (0, 0, 2)) else (0, 0, 1)
theorem wkRes_1 {xs : List SStand} {s : Int} (h : vlStand xs = false) : wkRes xs s = (0, 0, 1) := by simp [wkRes, h]
theorem wkRes_2 {xs : List SStand} {s : Int} (h : vlStand xs = true) (h2 : inr 0 2000 s = false) : wkRes xs s = (0, 0, 2) := by simp [wkRes, h, h2]
theorem wkRes_3 {xs : List SStand} {s : Int} (h : vlStand xs = true) (h2 : inr 0 2000 s = true) (h3 : xs.length = 0) : wkRes xs s = (0, 0, 3) := by simp only [wkRes, h, h2, h3, if_true]
theorem wkRes_0 {xs : List SStand} {s : Int} {m : Nat} (h : vlStand xs = true) (h2 : inr 0 2000 s = true) (h3 : ¬ xs.length = 0) (hm : wkI xs s xs.length = m) (hmm : m < xs.length) : wkRes xs s = ((m : Int), prot xs[m] s, 0) := by
  simp only [wkRes, h, h2, h3, if_true, if_false, hm, prA_eq hmm]
def psTo (xs : List SStand) (s l : Int) (k : Nat) : List Int := ((List.range k).filter (fun i => decide (l ≤ prA xs s i))).map (fun (i : Nat) => (i : Int))
theorem psTo_yes {xs : List SStand} {s l : Int} {k : Nat} (hk : k < xs.length) (h : l ≤ prot xs[k] s) : psTo xs s l (k + 1) = psTo xs s l k ++ [(k : Int)] := by
  unfold psTo; rw [List.range_succ, List.filter_append, List.map_append]; simp [prA_eq hk, h]
theorem psTo_no {xs : List SStand} {s l : Int} {k : Nat} (hk : k < xs.length) (h : ¬ l ≤ prot xs[k] s) : psTo xs s l (k + 1) = psTo xs s l k := by
  unfold psTo; rw [List.range_succ, List.filter_append, List.map_append]; simp [prA_eq hk, h]
theorem psTo_len (xs : List SStand) (s l : Int) (k : Nat) : (psTo xs s l k).length ≤ k := by
  unfold psTo
  rw [List.length_map]
  have h1 := List.length_filter_le (fun i => decide (l ≤ prA xs s i)) (List.range k)
  have h2 := List.length_range (n := k)
  omega
def psRes (xs : List SStand) (s l : Int) : List Int × Int := if vlStand xs then (if inr 0 2000 s && inr 0 1000 l then (psTo xs s l xs.length, 0) else ([], 2)) else ([], 1)
theorem psRes_1 {xs : List SStand} {s l : Int} (h : vlStand xs = false) : psRes xs s l = ([], 1) := by simp [psRes, h]
theorem psRes_2 {xs : List SStand} {s l : Int} (h : vlStand xs = true) (h2 : (inr 0 2000 s && inr 0 1000 l) = false) : psRes xs s l = ([], 2) := by rw [psRes, if_pos h, h2]; rfl
theorem psRes_0 {xs : List SStand} {s l : Int} (h : vlStand xs = true) (h2 : (inr 0 2000 s && inr 0 1000 l) = true) : psRes xs s l = (psTo xs s l xs.length, 0) := by rw [psRes, if_pos h, if_pos h2]
theorem psRes_len (xs : List SStand) (s l : Int) : (psRes xs s l).1.length ≤ xs.length := by
  unfold psRes
  split
  · split
    · exact psTo_len xs s l _
    · simp
  · simp
-- 1 fn, 2 name, 3 valid call, 4 range call (hyp HS), 5 slots, 6 start, 7 round, 8 the last call, 9 start k
theorem WeakestStand_any (xs : List SStand) (b c : Nat) (snow : Int) (w : World) (A : Arr SStand.cells 5 w b xs) (hn : xs.length ≤ 1048576) (hs : ∀ i (h : i < xs.length), xs[i].Id.size ≤ 9223372036854775807) :
    Calls Try.prog 51 #[.slice (some ⟨b, 0, none⟩) xs.length c, .int .i64 snow] w fun e w' => e = .returned (.tuple #[.int .i64 (wkRes xs snow).1, .int .i64 (wkRes xs snow).2.1, .int .i64 (wkRes xs snow).2.2]) ∧ Below w.heap.size w w' := by
  have HA := Lib.hid A
  have HI := Lib.hid hs
  clear A hs
  cases hv : vlStand xs
  · rw [wkRes_1 hv]
    have HV := Lib.hid hv
    clear hv
    go_enter Try.func51, Try.ntmps51
    go_wp2_with (go_at_call 103; refine (Calls.boolIs HV.out (ValidStands_any xs b c _ HA.out hn HI.out)).mono ?_; rintro e w1 ⟨rfl, hb1⟩)
    go_ret3
    exact ⟨rfl, hb1⟩
  have HV := Lib.hid hv
  clear hv
  cases hr : inr 0 2000 snow
  · rw [wkRes_2 HV.out hr]
    have HS := Lib.hid hr
    clear hr
    go_enter Try.func51, Try.ntmps51
    go_wp2_with (first | (go_at_call 103; refine (Calls.boolIs HV.out (ValidStands_any xs b c _ HA.out hn HI.out)).mono ?_; rintro e w1 ⟨rfl, hb1⟩) | (go_at_call 74; refine (Calls.boolIs ((show (inr 0 2000 snow && inr 0 1000 0) = inr 0 2000 snow from Bool.and_true _).trans HS.out) (protectOk_any _ _ _)).mono ?_; rintro e w' ⟨rfl, rfl⟩))
    go_ret3
    exact ⟨rfl, hb1⟩
  obtain ⟨hs0, hs1⟩ := inr_bd hr
  have HS := Lib.hid hr
  clear hr
  by_cases hz : xs.length = 0
  · rw [wkRes_3 HV.out HS.out hz]
    have hz1 : ((xs.length : Int) == 0) = true := beq_iff_eq.mpr (by omega)
    clear hz
    go_enter Try.func51, Try.ntmps51
    go_wp2_with (first | (go_at_call 103; refine (Calls.boolIs HV.out (ValidStands_any xs b c _ HA.out hn HI.out)).mono ?_; rintro e w1 ⟨rfl, hb1⟩) | (go_at_call 74; refine (Calls.boolIs ((show (inr 0 2000 snow && inr 0 1000 0) = inr 0 2000 snow from Bool.and_true _).trans HS.out) (protectOk_any _ _ _)).mono ?_; rintro e w' ⟨rfl, rfl⟩))
    go_ret3
    exact ⟨rfl, hb1⟩
  have hz1 : ((xs.length : Int) == 0) = false := beq_eq_false_iff_ne.mpr (by omega)
  have HZ := Lib.hid hz
  have hz2 : 0 < xs.length := by omega
  have hbd := vlS_bd HV.out
  have HB := Lib.hid hbd
  generalize hR : wkRes xs snow = R
  have HR := Lib.hid hR
  clear hz hbd hR
  go_enter Try.func51, Try.ntmps51
  go_wp2_with (first | (go_at_call 103; refine (Calls.boolIs HV.out (ValidStands_any xs b c _ HA.out hn HI.out)).mono ?_; rintro e w1 ⟨rfl, hb1⟩) | (go_at_call 74; refine (Calls.boolIs ((show (inr 0 2000 snow && inr 0 1000 0) = inr 0 2000 snow from Bool.and_true _).trans HS.out) (protectOk_any _ _ _)).mono ?_; rintro e w' ⟨rfl, rfl⟩))
  go_loopw [7, 24] (fun mv i wr => ∃ k m : Nat, k ≤ xs.length ∧ m < xs.length ∧ wkI xs snow k = m ∧ i = .int .i64 k ∧ mv = .int .i64 m ∧ Below w.heap.size w wr) (fun _ i wr => xs.length - (intOf i).toNat)
  case atStart => exact ⟨0, 0, by omega, by omega, rfl, rfl, rfl, hb1⟩
  case round =>
    obtain ⟨k, m, hk, hm, hwk, rfl, rfl, hbel⟩ := hrel
    have HW := Lib.hid hwk
    clear hwk
    by_cases hlt : k < xs.length
    · obtain ⟨p, hp⟩ : ∃ p, prot xs[k] snow = p := ⟨_, rfl⟩
      obtain ⟨q, hq⟩ : ∃ q, prot xs[m] snow = q := ⟨_, rfl⟩
      have HP := Lib.hid hp
      have HQ := Lib.hid hq
      clear hp hq
      obtain ⟨e0, e1, e2, e3, e4⟩ := SStand.elem (HA.out.below hbel) hlt
      go_wp2_with fail
      refine wp_box_out ?_
      intro W hbw BX
      have hbel := Bel.trans hbel hbw
      have p0 := Past.box BX (j := 0) (v := .string xs[k].Id) rfl
      have p1 := Past.box BX (j := 1) (v := .int .i64 xs[k].Trees) rfl
      have p2 := Past.box BX (j := 2) (v := .int .i64 xs[k].Height) rfl
      have p3 := Past.box BX (j := 3) (v := .int .i64 xs[k].Cover) rfl
      have p4 := Past.box BX (j := 4) (v := .int .i64 xs[k].Gap) rfl
      obtain ⟨q0, q1, q2, q3, q4⟩ := SStand.elems (HA.out.below hbel) hm
      clear BX e0 e1 e2 e3 e4
      have hck : ∀ y : Past W, Calls Try.prog 75 #[.agg #[.string xs[k].Id, .int .i64 xs[k].Trees, .int .i64 xs[k].Height, .int .i64 xs[k].Cover, .int .i64 xs[k].Gap], .int .i64 snow] y.w fun e w' => e = .returned (.int .i64 (prot xs[k] snow)) ∧ Below y.w.heap.size y.w w' := fun y => protection_any xs[k] snow y.w (HB.out k hlt) hs0 hs1
      have hcm : ∀ y : Past W, Calls Try.prog 75 #[.agg #[.string xs[m].Id, .int .i64 xs[m].Trees, .int .i64 xs[m].Height, .int .i64 xs[m].Cover, .int .i64 xs[m].Gap], .int .i64 snow] y.w fun e w' => e = .returned (.int .i64 (prot xs[m] snow)) ∧ Below y.w.heap.size y.w w' := fun y => protection_any xs[m] snow y.w (HB.out m hm) hs0 hs1
      have HCK := Lib.hid hck
      have HCM := Lib.hid hcm
      clear hck hcm
      refine wp_region_past (by kernel_rfl) (by kernel_rfl) ?_
      repeat (go_big_quiet_step ((go_at_call 75; first | with_reducible exact Past.callI _ HP.out (HCK.out _) | with_reducible exact Past.callI _ HQ.out (HCM.out _))))
      refine wpQuiet_nil ?_
      intro W1 hw'
      obtain ⟨⟨W_, hbx⟩, hw''⟩ := hw'
      subst hw''
      clear p0 p1 p2 p3 p4 q0 q1 q2 q3 q4
      have hbel := Bel.trans hbel hbx
      by_cases hpq : p < q
      · go_wp2
        go_roundw
        case rel => exact ⟨k + 1, k, by omega, by omega, wkI_yes hlt HW.out hm (by rw [HP.out, HQ.out]; exact hpq), by go_num, rfl, hbel⟩
        case measure => simp [intOf]; omega
      · go_wp2
        go_roundw
        case rel => exact ⟨k + 1, m, by omega, by omega, wkI_no hlt HW.out hm (by rw [HP.out, HQ.out]; exact hpq), by go_num, rfl, hbel⟩
        case measure => simp [intOf]; omega
    · have hke : k = xs.length := by omega
      have HK := Lib.hid hke
      clear hke
      have hex : decide ((k : Int) < (xs.length : Int)) = false := decide_eq_false (by omega)
      obtain ⟨e0, e1, e2, e3, e4⟩ := SStand.elem (HA.out.below hbel) hm
      go_wp2_with fail
      refine (protection_any xs[m] snow _ (HB.out m hm) (by omega) (by omega)).mono ?_
      rintro e w5 ⟨rfl, hb5⟩
      clear e0 e1 e2 e3 e4
      go_wp2
      go_ret3
      exact ⟨by rw [← HR.out, wkRes_0 HV.out HS.out HZ.out (by rw [← HK.out]; exact HW.out) hm]; rfl, Bel.trans hbel hb5⟩
-- 1 fn, 2 name, 3 valid call, 4 range call (hyp HS), 5 slots, 6 start, 7 round, 8 the last call, 9 start k
theorem sWeakestStand_any (xs : List SStand) (b c : Nat) (snow : Int) (w : World) (A : Arr SStand.cells 5 w b xs) (hn : xs.length ≤ 1048576) (hs : ∀ i (h : i < xs.length), xs[i].Id.size ≤ 9223372036854775807) :
    Calls Try.prog 49 #[.slice (some ⟨b, 0, none⟩) xs.length c, .int .i64 snow] w fun e w' => e = .returned (.tuple #[.int .i64 (wkRes xs snow).1, .int .i64 (wkRes xs snow).2.1, .int .i64 (wkRes xs snow).2.2]) ∧ Below w.heap.size w w' := by
  have HA := Lib.hid A
  have HI := Lib.hid hs
  clear A hs
  cases hv : vlStand xs
  · rw [wkRes_1 hv]
    have HV := Lib.hid hv
    clear hv
    go_enter Try.func49, Try.ntmps49
    go_wp2_with (go_at_call 102; refine (Calls.boolIs HV.out (l10Ok_any xs b c _ HA.out hn HI.out)).mono ?_; rintro e w1 ⟨rfl, hb1⟩)
    go_ret3
    exact ⟨rfl, hb1⟩
  have HV := Lib.hid hv
  clear hv
  cases hr : inr 0 2000 snow
  · rw [wkRes_2 HV.out hr]
    have HS := Lib.hid hr
    clear hr
    go_enter Try.func49, Try.ntmps49
    go_wp2_with (first | (go_at_call 102; refine (Calls.boolIs HV.out (l10Ok_any xs b c _ HA.out hn HI.out)).mono ?_; rintro e w1 ⟨rfl, hb1⟩) | (go_at_call 69; refine (Calls.boolIs HS.out (l10Snow_any _ _)).mono ?_; rintro e w' ⟨rfl, rfl⟩))
    go_ret3
    exact ⟨rfl, hb1⟩
  obtain ⟨hs0, hs1⟩ := inr_bd hr
  have HS := Lib.hid hr
  clear hr
  by_cases hz : xs.length = 0
  · rw [wkRes_3 HV.out HS.out hz]
    have hz1 : ((xs.length : Int) == 0) = true := beq_iff_eq.mpr (by omega)
    clear hz
    go_enter Try.func49, Try.ntmps49
    go_wp2_with (first | (go_at_call 102; refine (Calls.boolIs HV.out (l10Ok_any xs b c _ HA.out hn HI.out)).mono ?_; rintro e w1 ⟨rfl, hb1⟩) | (go_at_call 69; refine (Calls.boolIs HS.out (l10Snow_any _ _)).mono ?_; rintro e w' ⟨rfl, rfl⟩))
    go_ret3
    exact ⟨rfl, hb1⟩
  have hz1 : ((xs.length : Int) == 0) = false := beq_eq_false_iff_ne.mpr (by omega)
  have HZ := Lib.hid hz
  have hz2 : 0 < xs.length := by omega
  have hbd := vlS_bd HV.out
  have HB := Lib.hid hbd
  generalize hR : wkRes xs snow = R
  have HR := Lib.hid hR
  clear hz hbd hR
  go_enter Try.func49, Try.ntmps49
  go_wp2_with (first | (go_at_call 102; refine (Calls.boolIs HV.out (l10Ok_any xs b c _ HA.out hn HI.out)).mono ?_; rintro e w1 ⟨rfl, hb1⟩) | (go_at_call 69; refine (Calls.boolIs HS.out (l10Snow_any _ _)).mono ?_; rintro e w' ⟨rfl, rfl⟩))
  go_loopw [7, 8] (fun mv i wr => ∃ k m : Nat, k ≤ xs.length ∧ m < xs.length ∧ wkI xs snow k = m ∧ i = .int .i64 k ∧ mv = .int .i64 m ∧ Below w.heap.size w wr) (fun _ i wr => xs.length - (intOf i).toNat)
  case atStart => exact ⟨1, 0, by omega, by omega, wkI_1 xs snow, rfl, rfl, hb1⟩
  case round =>
    obtain ⟨k, m, hk, hm, hwk, rfl, rfl, hbel⟩ := hrel
    have HW := Lib.hid hwk
    clear hwk
    by_cases hlt : k < xs.length
    · obtain ⟨p, hp⟩ : ∃ p, prot xs[k] snow = p := ⟨_, rfl⟩
      obtain ⟨q, hq⟩ : ∃ q, prot xs[m] snow = q := ⟨_, rfl⟩
      have HP := Lib.hid hp
      have HQ := Lib.hid hq
      clear hp hq
      obtain ⟨p0, p1, p2, p3, p4⟩ := SStand.elems (HA.out.below hbel) hlt
      obtain ⟨q0, q1, q2, q3, q4⟩ := SStand.elems (HA.out.below hbel) hm
      have hck : ∀ y : Past wr, Calls Try.prog 72 #[.pointer (some ⟨b, k * 5, none⟩), .int .i64 snow] y.w fun e w' => e = .returned (.int .i64 (prot xs[k] snow)) ∧ Below y.w.heap.size y.w w' := fun y => l10Protection_any xs[k] b (k * 5) snow y.w (p0 y) (p1 y) (p2 y) (p3 y) (p4 y) (HB.out k hlt) hs0 hs1
      have hcm : ∀ y : Past wr, Calls Try.prog 72 #[.pointer (some ⟨b, m * 5, none⟩), .int .i64 snow] y.w fun e w' => e = .returned (.int .i64 (prot xs[m] snow)) ∧ Below y.w.heap.size y.w w' := fun y => l10Protection_any xs[m] b (m * 5) snow y.w (q0 y) (q1 y) (q2 y) (q3 y) (q4 y) (HB.out m hm) hs0 hs1
      have HCK := Lib.hid hck
      have HCM := Lib.hid hcm
      clear hck hcm p0 p1 p2 p3 p4 q0 q1 q2 q3 q4
      go_wp2_with fail
      refine wp_region_past (by kernel_rfl) (by kernel_rfl) ?_
      repeat (go_big_quiet_step ((go_at_call 72; first | with_reducible exact Past.callI _ HP.out (HCK.out _) | with_reducible exact Past.callI _ HQ.out (HCM.out _))))
      refine wpQuiet_nil ?_
      intro W1 hw'
      obtain ⟨⟨W_, hbx⟩, hw''⟩ := hw'
      subst hw''
      have hbel := Bel.trans hbel hbx
      by_cases hpq : p < q
      · go_wp2
        go_roundw
        case rel => exact ⟨k + 1, k, by omega, by omega, wkI_yes hlt HW.out hm (by rw [HP.out, HQ.out]; exact hpq), by go_num, rfl, hbel⟩
        case measure => simp [intOf]; omega
      · go_wp2
        go_roundw
        case rel => exact ⟨k + 1, m, by omega, by omega, wkI_no hlt HW.out hm (by rw [HP.out, HQ.out]; exact hpq), by go_num, rfl, hbel⟩
        case measure => simp [intOf]; omega
    · have hke : k = xs.length := by omega
      have HK := Lib.hid hke
      clear hke
      have hex : decide ((k : Int) < (xs.length : Int)) = false := decide_eq_false (by omega)
      obtain ⟨e0, e1, e2, e3, e4⟩ := SStand.elem (HA.out.below hbel) hm
      go_wp2_with fail
      refine (l10Protection_any xs[m] b (m * 5) snow _ e0 e1 e2 e3 e4 (HB.out m hm) (by omega) (by omega)).mono ?_
      rintro e w5 ⟨rfl, hb5⟩
      clear e0 e1 e2 e3 e4
      go_wp2
      go_ret3
      exact ⟨by rw [← HR.out, wkRes_0 HV.out HS.out HZ.out (by rw [← HK.out]; exact HW.out) hm]; rfl, Bel.trans hbel hb5⟩
end Go.Proofs.Ytamolhhccfnlfaa
