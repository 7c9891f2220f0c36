/- Chapter 27: valid histories: the walks. -/
import Derived.Test.YtfbnckgfgaddkaaL27
import Derived.Test.YtfbnckgfgaddkaaL27m
import Derived.Test.YtfbnckgfgaddkaaLTVersion
namespace Go.Proofs.Ytfbnckgfgaddkaa
set_option linter.unusedSimpArgs false
set_option linter.unusedVariables false
open Go.RowKit
set_option maxHeartbeats 1600000
set_option maxRecDepth 100000
def vAt (hs : List SVer) (S : Nat → List SSetting) (i : Nat) : Bool := if h : i < hs.length then (hs[i].Num == (i : Int) + 1) && inr 0 i hs[i].Par && memoOk hs[i].Memo && vlSetting (S i) else false
def vOk (hs : List SVer) (S : Nat → List SSetting) : Bool := (List.range hs.length).all (vAt hs S) && decide (hs.length ≤ 32)
theorem vOk_same {hs ys : List SVer} {S : Nat → List SSetting} (h : vSame hs ys) : vOk ys S = vOk hs S := by
  unfold vOk
  rw [h.1]
  congr 1
  rw [Bool.eq_iff_iff, List.all_eq_true, List.all_eq_true]
  have key : ∀ i, i < hs.length → vAt ys S i = vAt hs S i := fun i hi => by
    have hy : i < ys.length := by rw [h.1]; exact hi
    obtain ⟨e1, e2, e3⟩ := h.2 i hi hy
    rw [vAt, vAt, dif_pos hi, dif_pos hy, e1, e2, e3]
  exact ⟨fun hx i hi => by rw [← key i (List.mem_range.1 hi)]; exact hx i hi, fun hx i hi => by rw [key i (List.mem_range.1 hi)]; exact hx i hi⟩
theorem vAt_1 {hs : List SVer} {S : Nat → List SSetting} {k : Nat} (hk : k < hs.length) (h : (hs[k].Num == (k : Int) + 1) = false) : vAt hs S k = false := by rw [vAt, dif_pos hk, h]; rfl
theorem vAt_2 {hs : List SVer} {S : Nat → List SSetting} {k : Nat} (hk : k < hs.length) (h : inr 0 k hs[k].Par = false) : vAt hs S k = false := by rw [vAt, dif_pos hk, h, Bool.and_false]; rfl
theorem vAt_3 {hs : List SVer} {S : Nat → List SSetting} {k : Nat} (hk : k < hs.length) (h : memoOk hs[k].Memo = false) : vAt hs S k = false := by rw [vAt, dif_pos hk, h, Bool.and_false]; rfl
theorem vAt_4 {hs : List SVer} {S : Nat → List SSetting} {k : Nat} (hk : k < hs.length) (h : vlSetting (S k) = false) : vAt hs S k = false := by rw [vAt, dif_pos hk, h, Bool.and_false]
theorem vAt_0 {hs : List SVer} {S : Nat → List SSetting} {k : Nat} (hk : k < hs.length) (h1 : (hs[k].Num == (k : Int) + 1) = true) (h2 : inr 0 k hs[k].Par = true) (h3 : memoOk hs[k].Memo = true) (h4 : vlSetting (S k) = true) : vAt hs S k = true := by rw [vAt, dif_pos hk, h1, h2, h3, h4]; rfl
theorem ValidHistory_any (hs : List SVer) (S : Nat → List SSetting) (b c : Nat) (w : World) (A : Arr SVer.cells 4 w b hs) (C : VCp w hs S) (hn : hs.length ≤ 1048576) (hl : ∀ i, i < hs.length → (S i).length ≤ 1048576) (hm : ∀ i (h : i < hs.length), hs[i].Memo.size ≤ 9223372036854775807) (hf : ∀ i, i < hs.length → ∀ j (h : j < (S i).length), (S i)[j].Name.size ≤ 9223372036854775807) :
    Calls Try.prog 8 #[.slice (some ⟨b, 0, none⟩) hs.length c] w fun e w' => e = .returned (.bool (vOk hs S)) ∧ Below w.heap.size w w' := by
  have HC := Lib.hid C
  have HL := Lib.hid hl
  have HM := Lib.hid hm
  have HF := Lib.hid hf
  clear C hl hm hf
  by_cases hl : 32 < hs.length
  · go_enter Try.func8, Try.ntmps8
    go_wp2
    go_ret
    exact ⟨ret_bool (by rw [vOk, decide_eq_false (by omega), Bool.and_false]), Below.refl _ _⟩
  go_enter Try.func8, Try.ntmps8
  go_wp2_with fail
  go_loopw [3, 4, 10] (fun _ _ i wr => ∃ k : Nat, k ≤ hs.length ∧ i = .int .i64 k ∧ (List.range k).all (vAt hs S) = true ∧ Below w.heap.size w wr) (fun _ _ i wr => hs.length - (intOf i).toNat)
  case atStart => exact ⟨0, by omega, rfl, rfl, Below.refl _ _⟩
  case round =>
    obtain ⟨k, hk, rfl, hall, hbel⟩ := hrel
    have HA := Lib.hid hall
    clear hall
    by_cases hlt : k < hs.length
    · skip
      have hsz := hbel.size
      obtain ⟨e0, e1, e2, e3⟩ := SVer.elem (A.below hbel) hlt
      obtain ⟨m1, g, m2, m3⟩ := HC.out k hlt
      rw [m1, m2] at e3
      have HST := Lib.hid (m3.below hbel)
      have hln := HL.out k hlt
      have hmk := HM.out k hlt
      have HFK := Lib.hid (HF.out k hlt)
      clear m1 m2 m3
      go_upto_region 6 with fail
      refine wp_box_out ?_
      intro W1 hb1 BV
      have hbel1 := Bel.trans hbel hb1
      have HST := Lib.hid (HST.out.below hb1)
      have d0 : W1.cell? ⟨wr.heap.size, 0, none⟩ = some (.int .i64 hs[k].Num) := BV.cell 0
      have d1 : W1.cell? ⟨wr.heap.size, 1, none⟩ = some (.int .i64 hs[k].Par) := BV.cell 1
      have d2 : W1.cell? ⟨wr.heap.size, 2, none⟩ = some (.string hs[k].Memo) := BV.cell 2
      have d3 : W1.cell? ⟨wr.heap.size, 3, none⟩ = some (.slice (some ⟨g, 0, none⟩) (S k).length hs[k].c) := BV.cell 3
      clear BV e0 e1 e2 e3
      cases b1 : hs[k].Num == (k : Int) + 1
      · have HB := Lib.hid (vAt_1 (S := S) hlt b1)
        have bn : (hs[k].Num != (k : Int) + 1) = true := by rw [bne, b1]; rfl
        clear b1
        go_wp2_with fail
        go_ret
        exact ⟨ret_bool (by rw [vOk, all_range_no hlt HB.out, Bool.false_and]), hbel1⟩
      have HN1 := Lib.hid b1
      have bn : (hs[k].Num != (k : Int) + 1) = false := by rw [bne, b1]; rfl
      clear b1
      cases b2 : inr 0 k hs[k].Par
      · have HB := Lib.hid (vAt_2 (S := S) hlt b2)
        have HB2 := Lib.hid b2
        clear b2
        go_wp2_with (go_at_call 20; refine (Calls.boolIs HB2.out (within_any _ _ _ _)).mono ?_; rintro e w' ⟨rfl, rfl⟩)
        go_ret
        exact ⟨ret_bool (by rw [vOk, all_range_no hlt HB.out, Bool.false_and]), hbel1⟩
      have HB2 := Lib.hid b2
      clear b2
      cases b3 : memoOk hs[k].Memo
      · have HB := Lib.hid (vAt_3 (S := S) hlt b3)
        have HB3 := Lib.hid b3
        clear b3
        go_wp2_with (first | (go_at_call 20; refine (Calls.boolIs HB2.out (within_any _ _ _ _)).mono ?_; rintro e w' ⟨rfl, rfl⟩) | (go_at_call 21; refine (Calls.boolIs HB3.out (memoValid_any _ _ hmk)).mono ?_; rintro e w' ⟨rfl, rfl⟩))
        go_ret
        exact ⟨ret_bool (by rw [vOk, all_range_no hlt HB.out, Bool.false_and]), hbel1⟩
      have HB3 := Lib.hid b3
      clear b3
      cases b4 : vlSetting (S k)
      · have HB := Lib.hid (vAt_4 hlt b4)
        have HB4 := Lib.hid b4
        clear b4
        go_wp2_with (first | (go_at_call 20; refine (Calls.boolIs HB2.out (within_any _ _ _ _)).mono ?_; rintro e w' ⟨rfl, rfl⟩) | (go_at_call 21; refine (Calls.boolIs HB3.out (memoValid_any _ _ hmk)).mono ?_; rintro e w' ⟨rfl, rfl⟩) | (go_at_call 22; refine (Calls.boolIs HB4.out (ValidState_any (S k) g _ _ HST.out hln HFK.out)).mono ?_; rintro e w2 ⟨rfl, hb2⟩))
        go_ret
        exact ⟨ret_bool (by rw [vOk, all_range_no hlt HB.out, Bool.false_and]), Bel.trans hbel1 hb2⟩
      · have HB := Lib.hid (vAt_0 hlt HN1.out HB2.out HB3.out b4)
        have HB4 := Lib.hid b4
        clear b4
        go_wp2_with (first | (go_at_call 20; refine (Calls.boolIs HB2.out (within_any _ _ _ _)).mono ?_; rintro e w' ⟨rfl, rfl⟩) | (go_at_call 21; refine (Calls.boolIs HB3.out (memoValid_any _ _ hmk)).mono ?_; rintro e w' ⟨rfl, rfl⟩) | (go_at_call 22; refine (Calls.boolIs HB4.out (ValidState_any (S k) g _ _ HST.out hln HFK.out)).mono ?_; rintro e w2 ⟨rfl, hb2⟩))
        go_roundw
        case rel => exact ⟨k + 1, by omega, by go_num, all_range_snoc HA.out HB.out, Bel.trans hbel1 hb2⟩
        case measure => simp [intOf]; omega
    · obtain rfl : k = hs.length := by omega
      go_wp2
      go_ret
      exact ⟨ret_bool (by rw [vOk, HA.out, decide_eq_true (by omega)]; rfl), hbel⟩
theorem l27Ok_any (hs : List SVer) (S : Nat → List SSetting) (b c : Nat) (w : World) (A : Arr SVer.cells 4 w b hs) (C : VCp w hs S) (hn : hs.length ≤ 1048576) (hl : ∀ i, i < hs.length → (S i).length ≤ 1048576) (hm : ∀ i (h : i < hs.length), hs[i].Memo.size ≤ 9223372036854775807) (hf : ∀ i, i < hs.length → ∀ j (h : j < (S i).length), (S i)[j].Name.size ≤ 9223372036854775807) :
    Calls Try.prog 18 #[.slice (some ⟨b, 0, none⟩) hs.length c] w fun e w' => e = .returned (.bool (vOk hs S)) ∧ Below w.heap.size w w' := by
  have HC := Lib.hid C
  have HL := Lib.hid hl
  have HM := Lib.hid hm
  have HF := Lib.hid hf
  clear C hl hm hf
  go_enter Try.func18, Try.ntmps18
  go_wp2_with fail
  go_loopw [3, 4] (fun i _ wr => ∃ k : Nat, k ≤ hs.length ∧ i = .int .i64 k ∧ (List.range k).all (vAt hs S) = true ∧ Below w.heap.size w wr) (fun i _ wr => hs.length - (intOf i).toNat)
  case atStart => exact ⟨0, by omega, rfl, rfl, Below.refl _ _⟩
  case round =>
    obtain ⟨k, hk, rfl, hall, hbel⟩ := hrel
    have HA := Lib.hid hall
    clear hall
    by_cases hlt : k < hs.length
    · skip
      have hsz := hbel.size
      obtain ⟨e0, e1, e2, e3⟩ := SVer.elem (A.below hbel) hlt
      obtain ⟨m1, g, m2, m3⟩ := HC.out k hlt
      rw [m1, m2] at e3
      have HST := Lib.hid (m3.below hbel)
      have hln := HL.out k hlt
      have hmk := HM.out k hlt
      have HFK := Lib.hid (HF.out k hlt)
      clear m1 m2 m3
      go_upto_region 5 with fail
      refine wp_box_out ?_
      intro W1 hb1 BV
      have hbel1 := Bel.trans hbel hb1
      have HST := Lib.hid (HST.out.below hb1)
      have d0 : W1.cell? ⟨wr.heap.size, 0, none⟩ = some (.int .i64 hs[k].Num) := BV.cell 0
      have d1 : W1.cell? ⟨wr.heap.size, 1, none⟩ = some (.int .i64 hs[k].Par) := BV.cell 1
      have d2 : W1.cell? ⟨wr.heap.size, 2, none⟩ = some (.string hs[k].Memo) := BV.cell 2
      have d3 : W1.cell? ⟨wr.heap.size, 3, none⟩ = some (.slice (some ⟨g, 0, none⟩) (S k).length hs[k].c) := BV.cell 3
      clear BV e0 e1 e2 e3
      cases b1 : hs[k].Num == (k : Int) + 1
      · have HB := Lib.hid (vAt_1 (S := S) hlt b1)
        have bn : (hs[k].Num != (k : Int) + 1) = true := by rw [bne, b1]; rfl
        clear b1
        go_wp2_with fail
        go_ret
        exact ⟨ret_bool (by rw [vOk, all_range_no hlt HB.out, Bool.false_and]), hbel1⟩
      have HN1 := Lib.hid b1
      have bn : (hs[k].Num != (k : Int) + 1) = false := by rw [bne, b1]; rfl
      clear b1
      cases b2 : inr 0 k hs[k].Par
      · have HB := Lib.hid (vAt_2 (S := S) hlt b2)
        have HB2 := Lib.hid b2
        clear b2
        go_wp2_with (go_at_call 25; refine (Calls.boolIs HB2.out (l00In_any _ _ _ _)).mono ?_; rintro e w' ⟨rfl, rfl⟩)
        go_ret
        exact ⟨ret_bool (by rw [vOk, all_range_no hlt HB.out, Bool.false_and]), hbel1⟩
      have HB2 := Lib.hid b2
      clear b2
      cases b3 : memoOk hs[k].Memo
      · have HB := Lib.hid (vAt_3 (S := S) hlt b3)
        have HB3 := Lib.hid b3
        clear b3
        go_wp2_with (first | (go_at_call 25; refine (Calls.boolIs HB2.out (l00In_any _ _ _ _)).mono ?_; rintro e w' ⟨rfl, rfl⟩) | (go_at_call 32; refine (Calls.boolIs HB3.out (l27Memo_any _ _ hmk)).mono ?_; rintro e w' ⟨rfl, rfl⟩))
        go_ret
        exact ⟨ret_bool (by rw [vOk, all_range_no hlt HB.out, Bool.false_and]), hbel1⟩
      have HB3 := Lib.hid b3
      clear b3
      cases b4 : vlSetting (S k)
      · have HB := Lib.hid (vAt_4 hlt b4)
        have HB4 := Lib.hid b4
        clear b4
        go_wp2_with (first | (go_at_call 25; refine (Calls.boolIs HB2.out (l00In_any _ _ _ _)).mono ?_; rintro e w' ⟨rfl, rfl⟩) | (go_at_call 32; refine (Calls.boolIs HB3.out (l27Memo_any _ _ hmk)).mono ?_; rintro e w' ⟨rfl, rfl⟩) | (go_at_call 33; refine (Calls.boolIs HB4.out (l27State_any (S k) g _ _ HST.out hln HFK.out)).mono ?_; rintro e w2 ⟨rfl, hb2⟩))
        go_ret
        exact ⟨ret_bool (by rw [vOk, all_range_no hlt HB.out, Bool.false_and]), Bel.trans hbel1 hb2⟩
      · have HB := Lib.hid (vAt_0 hlt HN1.out HB2.out HB3.out b4)
        have HB4 := Lib.hid b4
        clear b4
        go_wp2_with (first | (go_at_call 25; refine (Calls.boolIs HB2.out (l00In_any _ _ _ _)).mono ?_; rintro e w' ⟨rfl, rfl⟩) | (go_at_call 32; refine (Calls.boolIs HB3.out (l27Memo_any _ _ hmk)).mono ?_; rintro e w' ⟨rfl, rfl⟩) | (go_at_call 33; refine (Calls.boolIs HB4.out (l27State_any (S k) g _ _ HST.out hln HFK.out)).mono ?_; rintro e w2 ⟨rfl, hb2⟩))
        go_roundw
        case rel => exact ⟨k + 1, by omega, by go_num, all_range_snoc HA.out HB.out, Bel.trans hbel1 hb2⟩
        case measure => simp [intOf]; omega
    · obtain rfl : k = hs.length := by omega
      go_wp2
      go_ret
      exact ⟨ret_bool (by rw [vOk, HA.out, Bool.true_and]; simp; omega), hbel⟩
theorem sValidHistory_any (hs : List SVer) (S : Nat → List SSetting) (b c : Nat) (w : World) (A : Arr SVer.cells 4 w b hs) (C : VCp w hs S) (hn : hs.length ≤ 1048576) (hl : ∀ i, i < hs.length → (S i).length ≤ 1048576) (hm : ∀ i (h : i < hs.length), hs[i].Memo.size ≤ 9223372036854775807) (hf : ∀ i, i < hs.length → ∀ j (h : j < (S i).length), (S i)[j].Name.size ≤ 9223372036854775807) :
    Calls Try.prog 6 #[.slice (some ⟨b, 0, none⟩) hs.length c] w fun e w' => e = .returned (.bool (vOk hs S)) ∧ Below w.heap.size w w' := by
  go_enter Try.func6, Try.ntmps6
  go_wp2_with fail
  refine (l27Ok_any hs S b c _ A C hn hl hm hf).mono ?_
  rintro e w1 ⟨rfl, hb1⟩
  go_wp2
  go_ret
  exact ⟨rfl, hb1⟩
end Go.Proofs.Ytfbnckgfgaddkaa
