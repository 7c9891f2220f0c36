/- Chapter 21: RunGate, ShutHours, FirstShut: the walks. -/
import Derived.Test.YtinijfdopkohfaaL21e
namespace Go.Proofs.Ytinijfdopkohfaa
set_option linter.unusedSimpArgs false
set_option linter.unusedVariables false
open Go.RowKit
set_option maxHeartbeats 400000
set_option maxRecDepth 100000
def orNF (n : Int) (b : Bool) : Int × Int := if b then (n, 0) else (0, 3)
theorem orNotFound_any (n : Int) (b : Bool) (w : World) : Calls Try.prog 67 #[.int .i64 n, .bool b] w fun e w' => e = .returned (.tuple #[.int .i64 (orNF n b).1, .int .i64 (orNF n b).2]) ∧ w = w' := by
  cases b
  · go_enter Try.func67, Try.ntmps67
    go_wp2
    go_ret2
    exact ⟨rfl, rfl⟩
  · go_enter Try.func67, Try.ntmps67
    go_wp2
    go_ret2
    exact ⟨rfl, rfl⟩
theorem bd_of_code {x : SGate} {hs : List Int} {t : Int} (h : acode x hs t = 0) : bdGate x := bdGate_of (acode_0 h).1
theorem RunGate_any (x : SGate) (hs : List Int) (b c : Nat) (w : World) (A : Arr intc 1 w b hs) (hn : hs.length ≤ 1048576) (hf : x.Id.size ≤ 9223372036854775807) :
    Calls Try.prog 41 #[.agg #[.string x.Id, .int .i64 x.Shut, .int .i64 x.Open, .int .i64 x.Hold, .bool x.Shuts, .int .i64 x.Calm], .slice (some ⟨b, 0, none⟩) hs.length c] w fun e w' => (∃ v, e = .returned (.tuple #[v, .int .i64 (rgRes x hs).2]) ∧ Row boolc 1 4 w' w.heap.size v (rgRes x hs).1) ∧ Below w.heap.size w w' := by
  have HA := Lib.hid A
  clear A
  obtain ⟨cc, hcc⟩ : ∃ cc, acode x hs 0 = cc := ⟨_, rfl⟩
  have hca := codeGate_any x hs b c 0
  rw [hcc] at hca
  have HCA := Lib.hid hca
  have HCC := Lib.hid hcc
  clear hcc hca
  go_enter Try.func41, Try.ntmps41
  go_wp2_with fail
  refine calls_box_out ?_
  intro W hbw B
  refine (HCA.out _ (HA.out.below hbw) hn hf).mono ?_
  rintro e w1 ⟨rfl, hb1⟩
  have B1 := B.below hb1
  have hbw := Bel.trans hbw hb1
  have HA1 := Lib.hid (HA.out.below hbw)
  clear HCA HA B hb1
  have c0 : w1.cell? ⟨w.heap.size, 0, none⟩ = some (.string x.Id) := B1.cell 0
  have c1 : w1.cell? ⟨w.heap.size, 1, none⟩ = some (.int .i64 x.Shut) := B1.cell 1
  have c2 : w1.cell? ⟨w.heap.size, 2, none⟩ = some (.int .i64 x.Open) := B1.cell 2
  have c3 : w1.cell? ⟨w.heap.size, 3, none⟩ = some (.int .i64 x.Hold) := B1.cell 3
  have c4 : w1.cell? ⟨w.heap.size, 4, none⟩ = some (.bool x.Shuts) := B1.cell 4
  have c5 : w1.cell? ⟨w.heap.size, 5, none⟩ = some (.int .i64 x.Calm) := B1.cell 5
  have z0 : w1.frozen? ⟨w.heap.size, 0, none⟩ = false := B1.free 0
  have z1 : w1.frozen? ⟨w.heap.size, 1, none⟩ = false := B1.free 1
  have z2 : w1.frozen? ⟨w.heap.size, 2, none⟩ = false := B1.free 2
  have z3 : w1.frozen? ⟨w.heap.size, 3, none⟩ = false := B1.free 3
  have z4 : w1.frozen? ⟨w.heap.size, 4, none⟩ = false := B1.free 4
  have z5 : w1.frozen? ⟨w.heap.size, 5, none⟩ = false := B1.free 5
  clear B1 z0 z1 z2 z3 z4 z5
  by_cases hz : cc = 0
  · have hz1 : (cc != 0) = false := by simp [hz]
    have hc0 := HCC.out
    rw [hz] at hc0
    have hx := bd_of_code hc0
    have HC0 := Lib.hid hc0
    have HX := Lib.hid hx
    clear hc0 hx
    go_wp2_with fail
    refine (runGate_any x hs b c _ HA1.out hn HX.out).mono ?_
    rintro e w2 ⟨⟨v, rfl, R⟩, hb2⟩
    have HR := Lib.hid (R.lower hbw.size)
    clear R
    go_wp2
    go_ret2
    rw [rgRes_0 HC0.out]
    exact ⟨⟨_, rfl, HR.out⟩, Bel.trans hbw hb2⟩
  · have hz1 : (cc != 0) = true := by simp [hz]
    have HZ := Lib.hid hz
    clear hz
    go_wp2
    go_ret2
    rw [rgRes_c HCC.out HZ.out]
    exact ⟨⟨_, rfl, Row.nil⟩, hbw⟩
theorem sRunGate_any (x : SGate) (hs : List Int) (b c : Nat) (w : World) (A : Arr intc 1 w b hs) (hn : hs.length ≤ 1048576) (hf : x.Id.size ≤ 9223372036854775807) :
    Calls Try.prog 40 #[.agg #[.string x.Id, .int .i64 x.Shut, .int .i64 x.Open, .int .i64 x.Hold, .bool x.Shuts, .int .i64 x.Calm], .slice (some ⟨b, 0, none⟩) hs.length c] w fun e w' => (∃ v, e = .returned (.tuple #[v, .int .i64 (rgRes x hs).2]) ∧ Row boolc 1 4 w' w.heap.size v (rgRes x hs).1) ∧ Below w.heap.size w w' := by
  have HA := Lib.hid A
  clear A
  obtain ⟨cc, hcc⟩ : ∃ cc, acode x hs 0 = cc := ⟨_, rfl⟩
  have hca := l21Ask_any x hs b c
  rw [hcc] at hca
  have HCA := Lib.hid hca
  have HCC := Lib.hid hcc
  clear hcc hca
  go_enter Try.func40, Try.ntmps40
  go_wp2_with fail
  refine calls_box_out ?_
  intro W hbw B
  refine (HCA.out w.heap.size 0 _ (HA.out.below hbw) (B.cell 0) (B.cell 1) (B.cell 2) (B.cell 3) (B.cell 4) (B.cell 5) hn hf).mono ?_
  rintro e w1 ⟨rfl, hb1⟩
  have B1 := B.below hb1
  have hbw := Bel.trans hbw hb1
  have HA1 := Lib.hid (HA.out.below hbw)
  clear HCA HA B hb1
  have c0 : w1.cell? ⟨w.heap.size, 0, none⟩ = some (.string x.Id) := B1.cell 0
  have c1 : w1.cell? ⟨w.heap.size, 1, none⟩ = some (.int .i64 x.Shut) := B1.cell 1
  have c2 : w1.cell? ⟨w.heap.size, 2, none⟩ = some (.int .i64 x.Open) := B1.cell 2
  have c3 : w1.cell? ⟨w.heap.size, 3, none⟩ = some (.int .i64 x.Hold) := B1.cell 3
  have c4 : w1.cell? ⟨w.heap.size, 4, none⟩ = some (.bool x.Shuts) := B1.cell 4
  have c5 : w1.cell? ⟨w.heap.size, 5, none⟩ = some (.int .i64 x.Calm) := B1.cell 5
  have z0 : w1.frozen? ⟨w.heap.size, 0, none⟩ = false := B1.free 0
  have z1 : w1.frozen? ⟨w.heap.size, 1, none⟩ = false := B1.free 1
  have z2 : w1.frozen? ⟨w.heap.size, 2, none⟩ = false := B1.free 2
  have z3 : w1.frozen? ⟨w.heap.size, 3, none⟩ = false := B1.free 3
  have z4 : w1.frozen? ⟨w.heap.size, 4, none⟩ = false := B1.free 4
  have z5 : w1.frozen? ⟨w.heap.size, 5, none⟩ = false := B1.free 5
  clear B1 z0 z1 z2 z3 z4 z5
  by_cases hz : cc = 0
  · have hz1 : (cc != 0) = false := by simp [hz]
    have hc0 := HCC.out
    rw [hz] at hc0
    have hx := bd_of_code hc0
    have HC0 := Lib.hid hc0
    have HX := Lib.hid hx
    clear hc0 hx
    go_wp2_with fail
    refine (l21Run_any x hs b c _ HA1.out hn HX.out).mono ?_
    rintro e w2 ⟨⟨v, rfl, R⟩, hb2⟩
    have HR := Lib.hid (R.lower hbw.size)
    clear R
    go_wp2
    go_ret2
    rw [rgRes_0 HC0.out]
    exact ⟨⟨_, rfl, HR.out⟩, Bel.trans hbw hb2⟩
  · have hz1 : (cc != 0) = true := by simp [hz]
    have HZ := Lib.hid hz
    clear hz
    go_wp2
    go_ret2
    rw [rgRes_c HCC.out HZ.out]
    exact ⟨⟨_, rfl, Row.nil⟩, hbw⟩
theorem ShutHours_any (x : SGate) (hs : List Int) (b c : Nat) (w : World) (A : Arr intc 1 w b hs) (hn : hs.length ≤ 1048576) (hf : x.Id.size ≤ 9223372036854775807) :
    Calls Try.prog 46 #[.agg #[.string x.Id, .int .i64 x.Shut, .int .i64 x.Open, .int .i64 x.Hold, .bool x.Shuts, .int .i64 x.Calm], .slice (some ⟨b, 0, none⟩) hs.length c] w fun e w' => e = .returned (.tuple #[.int .i64 (shRes x hs).1, .int .i64 (shRes x hs).2.1, .int .i64 (shRes x hs).2.2]) ∧ Below w.heap.size w w' := by
  have HA := Lib.hid A
  clear A
  obtain ⟨cc, hcc⟩ : ∃ cc, acode x hs 0 = cc := ⟨_, rfl⟩
  have hca := codeGate_any x hs b c 0
  rw [hcc] at hca
  have HCA := Lib.hid hca
  have HCC := Lib.hid hcc
  clear hcc hca
  go_enter Try.func46, Try.ntmps46
  go_wp2_with fail
  refine calls_box_out ?_
  intro W hbw B
  refine (HCA.out _ (HA.out.below hbw) hn hf).mono ?_
  rintro e w1 ⟨rfl, hb1⟩
  have B1 := B.below hb1
  have hbw := Bel.trans hbw hb1
  have HA1 := Lib.hid (HA.out.below hbw)
  clear HCA HA B hb1
  have c0 : w1.cell? ⟨w.heap.size, 0, none⟩ = some (.string x.Id) := B1.cell 0
  have c1 : w1.cell? ⟨w.heap.size, 1, none⟩ = some (.int .i64 x.Shut) := B1.cell 1
  have c2 : w1.cell? ⟨w.heap.size, 2, none⟩ = some (.int .i64 x.Open) := B1.cell 2
  have c3 : w1.cell? ⟨w.heap.size, 3, none⟩ = some (.int .i64 x.Hold) := B1.cell 3
  have c4 : w1.cell? ⟨w.heap.size, 4, none⟩ = some (.bool x.Shuts) := B1.cell 4
  have c5 : w1.cell? ⟨w.heap.size, 5, none⟩ = some (.int .i64 x.Calm) := B1.cell 5
  have z0 : w1.frozen? ⟨w.heap.size, 0, none⟩ = false := B1.free 0
  have z1 : w1.frozen? ⟨w.heap.size, 1, none⟩ = false := B1.free 1
  have z2 : w1.frozen? ⟨w.heap.size, 2, none⟩ = false := B1.free 2
  have z3 : w1.frozen? ⟨w.heap.size, 3, none⟩ = false := B1.free 3
  have z4 : w1.frozen? ⟨w.heap.size, 4, none⟩ = false := B1.free 4
  have z5 : w1.frozen? ⟨w.heap.size, 5, none⟩ = false := B1.free 5
  clear B1 z0 z1 z2 z3 z4 z5
  by_cases hz : cc = 0
  · have hz1 : (cc != 0) = false := by simp [hz]
    have hc0 := HCC.out
    rw [hz] at hc0
    have hx := bd_of_code hc0
    have HC0 := Lib.hid hc0
    have HX := Lib.hid hx
    clear hc0 hx
    go_wp2_with fail
    refine (shutHours_any x hs b c _ HA1.out hn HX.out).mono ?_
    rintro e w2 ⟨rfl, hb2⟩
    go_wp2
    go_ret3
    exact ⟨by rw [shRes, if_pos HC0.out]; rfl, Bel.trans hbw hb2⟩
  · have hz1 : (cc != 0) = true := by simp [hz]
    have HZ := Lib.hid hz
    clear hz
    go_wp2
    go_ret3
    rw [shRes_c HCC.out HZ.out]
    exact ⟨rfl, hbw⟩
theorem sShutHours_any (x : SGate) (hs : List Int) (b c : Nat) (w : World) (A : Arr intc 1 w b hs) (hn : hs.length ≤ 1048576) (hf : x.Id.size ≤ 9223372036854775807) :
    Calls Try.prog 45 #[.agg #[.string x.Id, .int .i64 x.Shut, .int .i64 x.Open, .int .i64 x.Hold, .bool x.Shuts, .int .i64 x.Calm], .slice (some ⟨b, 0, none⟩) hs.length c] w fun e w' => e = .returned (.tuple #[.int .i64 (shRes x hs).1, .int .i64 (shRes x hs).2.1, .int .i64 (shRes x hs).2.2]) ∧ Below w.heap.size w w' := by
  have HA := Lib.hid A
  clear A
  obtain ⟨cc, hcc⟩ : ∃ cc, acode x hs 0 = cc := ⟨_, rfl⟩
  have hca := l21Ask_any x hs b c
  rw [hcc] at hca
  have HCA := Lib.hid hca
  have HCC := Lib.hid hcc
  clear hcc hca
  go_enter Try.func45, Try.ntmps45
  go_wp2_with fail
  refine calls_box_out ?_
  intro W hbw B
  refine (HCA.out w.heap.size 0 _ (HA.out.below hbw) (B.cell 0) (B.cell 1) (B.cell 2) (B.cell 3) (B.cell 4) (B.cell 5) hn hf).mono ?_
  rintro e w1 ⟨rfl, hb1⟩
  have B1 := B.below hb1
  have hbw := Bel.trans hbw hb1
  have HA1 := Lib.hid (HA.out.below hbw)
  clear HCA HA B hb1
  have c0 : w1.cell? ⟨w.heap.size, 0, none⟩ = some (.string x.Id) := B1.cell 0
  have c1 : w1.cell? ⟨w.heap.size, 1, none⟩ = some (.int .i64 x.Shut) := B1.cell 1
  have c2 : w1.cell? ⟨w.heap.size, 2, none⟩ = some (.int .i64 x.Open) := B1.cell 2
  have c3 : w1.cell? ⟨w.heap.size, 3, none⟩ = some (.int .i64 x.Hold) := B1.cell 3
  have c4 : w1.cell? ⟨w.heap.size, 4, none⟩ = some (.bool x.Shuts) := B1.cell 4
  have c5 : w1.cell? ⟨w.heap.size, 5, none⟩ = some (.int .i64 x.Calm) := B1.cell 5
  have z0 : w1.frozen? ⟨w.heap.size, 0, none⟩ = false := B1.free 0
  have z1 : w1.frozen? ⟨w.heap.size, 1, none⟩ = false := B1.free 1
  have z2 : w1.frozen? ⟨w.heap.size, 2, none⟩ = false := B1.free 2
  have z3 : w1.frozen? ⟨w.heap.size, 3, none⟩ = false := B1.free 3
  have z4 : w1.frozen? ⟨w.heap.size, 4, none⟩ = false := B1.free 4
  have z5 : w1.frozen? ⟨w.heap.size, 5, none⟩ = false := B1.free 5
  clear B1 z0 z1 z2 z3 z4 z5
  by_cases hz : cc = 0
  · have hz1 : (cc != 0) = false := by simp [hz]
    have hc0 := HCC.out
    rw [hz] at hc0
    have hx := bd_of_code hc0
    have HC0 := Lib.hid hc0
    have HX := Lib.hid hx
    clear hc0 hx
    go_wp2_with fail
    refine (l21Times_any x hs b c _ HA1.out hn HX.out).mono ?_
    rintro e w2 ⟨rfl, hb2⟩
    go_wp2
    go_ret3
    exact ⟨by rw [shRes, if_pos HC0.out]; rfl, Bel.trans hbw hb2⟩
  · have hz1 : (cc != 0) = true := by simp [hz]
    have HZ := Lib.hid hz
    clear hz
    go_wp2
    go_ret3
    rw [shRes_c HCC.out HZ.out]
    exact ⟨rfl, hbw⟩
theorem indexB_any (L : List Bool) (D : Option Addr) (c : Nat) (w : World) (S : ArgS boolc 1 w D L) (hn : L.length ≤ 1048576) :
    Calls Try.prog 65 #[.slice D L.length c, .bool true] w fun e w' => e = .returned (.int .i64 (idxG id L)) ∧ Below w.heap.size w w' := by
  have HS := Lib.hid S
  clear S
  go_enter Try.func65, Try.ntmps65
  go_wp2_with fail
  go_loopw [8] (fun i wr => ∃ k : Nat, k ≤ L.length ∧ i = .int .i64 k ∧ (∀ j, j < k → hasG id L j = false) ∧ Below w.heap.size w wr) (fun i wr => L.length - (intOf i).toNat)
  case atStart => exact ⟨0, by omega, rfl, fun j hj => absurd hj (Nat.not_lt_zero j), Below.refl _ _⟩
  case round =>
    obtain ⟨k, hk, rfl, hall, hbel⟩ := hrel
    have HL := Lib.hid hall
    clear hall
    by_cases hlt : k < L.length
    · obtain ⟨g, o, rfl, hc⟩ := HS.out (by omega)
      have c0 := argB (hc.below hbel hc.1) hlt
      cases hq : L[k]
      · rw [hq] at c0
        have hno : hasG id L k = false := by rw [hasG_at hlt, hq]; rfl
        have HNO := Lib.hid hno
        clear hq hno hc HS
        go_wp2
        go_roundw
        case rel => exact ⟨k + 1, by omega, by go_num, upto_snoc HL.out HNO.out, hbel⟩
        case measure => simp [intOf]; omega
      · rw [hq] at c0
        have hno : hasG id L k = true := by rw [hasG_at hlt, hq]; rfl
        have HNO := Lib.hid hno
        clear hq hno hc HS
        go_wp2
        go_ret
        exact ⟨ret_int (idxG_some hlt HL.out HNO.out).symm, hbel⟩
    · obtain rfl : k = L.length := by omega
      go_wp2
      go_ret
      exact ⟨ret_int (idxG_none HL.out).symm, hbel⟩
theorem fsRes_eq {x : SGate} {hs : List Int} {L : List Bool} (hc : acode x hs 0 = 0) (hL : runL x hs hs.length = L) : fsRes x hs = orNF (idxG id L) (decide (0 ≤ idxG id L)) := by
  have hl : L.length = hs.length := by rw [← hL, runL_len]
  rw [fsRes, if_pos hc, hL, idxG, hl]
  cases fst (hasG id L) hs.length with
  | none => rfl
  | some k => simp [orNF]
theorem idxG_bd {α : Type} (q : α → Bool) (xs : List α) : -1 ≤ idxG q xs ∧ idxG q xs ≤ xs.length := by
  unfold idxG fst
  cases h : List.find? (hasG q xs) (List.range xs.length) with
  | none => simp only; omega
  | some k => have := List.mem_range.1 (List.mem_of_find?_eq_some h); simp only; omega
theorem FirstShut_any (x : SGate) (hs : List Int) (b c : Nat) (w : World) (A : Arr intc 1 w b hs) (hn : hs.length ≤ 1048576) (hf : x.Id.size ≤ 9223372036854775807) :
    Calls Try.prog 28 #[.agg #[.string x.Id, .int .i64 x.Shut, .int .i64 x.Open, .int .i64 x.Hold, .bool x.Shuts, .int .i64 x.Calm], .slice (some ⟨b, 0, none⟩) hs.length c] w fun e w' => e = .returned (.tuple #[.int .i64 (fsRes x hs).1, .int .i64 (fsRes x hs).2]) ∧ Below w.heap.size w w' := by
  have hra := runGate_any x hs b c
  obtain ⟨L, hLd⟩ : ∃ L, runL x hs hs.length = L := ⟨_, rfl⟩
  have hL := runL_len x hs hs.length
  rw [hLd] at hra hL
  have hL1 : L.length ≤ hs.length := by omega
  have hL2 : hs.length ≤ L.length := by omega
  have HLD := Lib.hid hLd
  clear hL
  have HRA := Lib.hid hra
  clear hLd hra
  have HA := Lib.hid A
  clear A
  obtain ⟨cc, hcc⟩ : ∃ cc, acode x hs 0 = cc := ⟨_, rfl⟩
  have hca := codeGate_any x hs b c 0
  rw [hcc] at hca
  have HCA := Lib.hid hca
  have HCC := Lib.hid hcc
  clear hcc hca
  go_enter Try.func28, Try.ntmps28
  go_wp2_with fail
  refine calls_box_out ?_
  intro W hbw B
  refine (HCA.out _ (HA.out.below hbw) hn hf).mono ?_
  rintro e w1 ⟨rfl, hb1⟩
  have B1 := B.below hb1
  have hbw := Bel.trans hbw hb1
  have HA1 := Lib.hid (HA.out.below hbw)
  clear HCA HA B hb1
  have c0 : w1.cell? ⟨w.heap.size, 0, none⟩ = some (.string x.Id) := B1.cell 0
  have c1 : w1.cell? ⟨w.heap.size, 1, none⟩ = some (.int .i64 x.Shut) := B1.cell 1
  have c2 : w1.cell? ⟨w.heap.size, 2, none⟩ = some (.int .i64 x.Open) := B1.cell 2
  have c3 : w1.cell? ⟨w.heap.size, 3, none⟩ = some (.int .i64 x.Hold) := B1.cell 3
  have c4 : w1.cell? ⟨w.heap.size, 4, none⟩ = some (.bool x.Shuts) := B1.cell 4
  have c5 : w1.cell? ⟨w.heap.size, 5, none⟩ = some (.int .i64 x.Calm) := B1.cell 5
  have z0 : w1.frozen? ⟨w.heap.size, 0, none⟩ = false := B1.free 0
  have z1 : w1.frozen? ⟨w.heap.size, 1, none⟩ = false := B1.free 1
  have z2 : w1.frozen? ⟨w.heap.size, 2, none⟩ = false := B1.free 2
  have z3 : w1.frozen? ⟨w.heap.size, 3, none⟩ = false := B1.free 3
  have z4 : w1.frozen? ⟨w.heap.size, 4, none⟩ = false := B1.free 4
  have z5 : w1.frozen? ⟨w.heap.size, 5, none⟩ = false := B1.free 5
  clear B1 z0 z1 z2 z3 z4 z5
  by_cases hz : cc = 0
  · have hz1 : (cc != 0) = false := by simp [hz]
    have hc0 := HCC.out
    rw [hz] at hc0
    have hx := bd_of_code hc0
    have HFS := Lib.hid (fsRes_eq hc0 HLD.out)
    have HX := Lib.hid hx
    clear hc0 hx
    go_wp2_with fail
    refine (HRA.out _ HA1.out hn HX.out).mono ?_
    rintro e w2 ⟨⟨v, rfl, R⟩, hb2⟩
    obtain ⟨D, d, rfl, hS⟩ := R.form (fun _ => rfl)
    have HS := Lib.hid hS
    have hbw := Bel.trans hbw hb2
    clear R hS hb2 c0 c1 c2 c3 c4 c5 HRA
    go_wp2_with fail
    have hib := idxG_bd id L
    have hia := indexB_any L D d w2 HS.out (by omega)
    obtain ⟨ii, hii⟩ : ∃ ii, idxG id L = ii := ⟨_, rfl⟩
    rw [hii] at hib hia
    have HII := Lib.hid hii
    clear hii
    refine hia.mono ?_
    rintro e w3 ⟨rfl, hb3⟩
    have hbw := Bel.trans hbw hb3
    clear hia hb3 HS
    go_wp2_with (go_at_call 67; refine (orNotFound_any _ _ _).mono ?_; rintro e w' ⟨rfl, rfl⟩)
    go_ret2
    rw [HFS.out, HII.out]
    exact ⟨rfl, hbw⟩
  · have hz1 : (cc != 0) = true := by simp [hz]
    have HZ := Lib.hid hz
    clear hz
    go_wp2
    go_ret2
    rw [fsRes_c HCC.out HZ.out]
    exact ⟨rfl, hbw⟩
theorem sFirstShut_any (x : SGate) (hs : List Int) (b c : Nat) (w : World) (A : Arr intc 1 w b hs) (hn : hs.length ≤ 1048576) (hf : x.Id.size ≤ 9223372036854775807) :
    Calls Try.prog 25 #[.agg #[.string x.Id, .int .i64 x.Shut, .int .i64 x.Open, .int .i64 x.Hold, .bool x.Shuts, .int .i64 x.Calm], .slice (some ⟨b, 0, none⟩) hs.length c] w fun e w' => e = .returned (.tuple #[.int .i64 (fsRes x hs).1, .int .i64 (fsRes x hs).2]) ∧ Below w.heap.size w w' := by
  have hra := l21Run_any x hs b c
  obtain ⟨L, hLd⟩ : ∃ L, runL x hs hs.length = L := ⟨_, rfl⟩
  have hL := runL_len x hs hs.length
  rw [hLd] at hra hL
  have hL1 : L.length ≤ hs.length := by omega
  have hL2 : hs.length ≤ L.length := by omega
  have HLD := Lib.hid hLd
  clear hL
  have HRA := Lib.hid hra
  clear hLd hra
  have HA := Lib.hid A
  clear A
  obtain ⟨cc, hcc⟩ : ∃ cc, acode x hs 0 = cc := ⟨_, rfl⟩
  have hca := l21Ask_any x hs b c
  rw [hcc] at hca
  have HCA := Lib.hid hca
  have HCC := Lib.hid hcc
  clear hcc hca
  go_enter Try.func25, Try.ntmps25
  go_wp2_with fail
  refine calls_box_out ?_
  intro W hbw B
  refine (HCA.out w.heap.size 0 _ (HA.out.below hbw) (B.cell 0) (B.cell 1) (B.cell 2) (B.cell 3) (B.cell 4) (B.cell 5) hn hf).mono ?_
  rintro e w1 ⟨rfl, hb1⟩
  have B1 := B.below hb1
  have hbw := Bel.trans hbw hb1
  have HA1 := Lib.hid (HA.out.below hbw)
  clear HCA HA B hb1
  have c0 : w1.cell? ⟨w.heap.size, 0, none⟩ = some (.string x.Id) := B1.cell 0
  have c1 : w1.cell? ⟨w.heap.size, 1, none⟩ = some (.int .i64 x.Shut) := B1.cell 1
  have c2 : w1.cell? ⟨w.heap.size, 2, none⟩ = some (.int .i64 x.Open) := B1.cell 2
  have c3 : w1.cell? ⟨w.heap.size, 3, none⟩ = some (.int .i64 x.Hold) := B1.cell 3
  have c4 : w1.cell? ⟨w.heap.size, 4, none⟩ = some (.bool x.Shuts) := B1.cell 4
  have c5 : w1.cell? ⟨w.heap.size, 5, none⟩ = some (.int .i64 x.Calm) := B1.cell 5
  have z0 : w1.frozen? ⟨w.heap.size, 0, none⟩ = false := B1.free 0
  have z1 : w1.frozen? ⟨w.heap.size, 1, none⟩ = false := B1.free 1
  have z2 : w1.frozen? ⟨w.heap.size, 2, none⟩ = false := B1.free 2
  have z3 : w1.frozen? ⟨w.heap.size, 3, none⟩ = false := B1.free 3
  have z4 : w1.frozen? ⟨w.heap.size, 4, none⟩ = false := B1.free 4
  have z5 : w1.frozen? ⟨w.heap.size, 5, none⟩ = false := B1.free 5
  clear B1 z0 z1 z2 z3 z4 z5
  by_cases hz : cc = 0
  · have hz1 : (cc != 0) = false := by simp [hz]
    have hc0 := HCC.out
    rw [hz] at hc0
    have hx := bd_of_code hc0
    have HC0 := Lib.hid hc0
    have HX := Lib.hid hx
    clear hc0 hx
    go_wp2_with fail
    refine (HRA.out _ HA1.out hn HX.out).mono ?_
    rintro e w2 ⟨⟨v, rfl, R⟩, hb2⟩
    obtain ⟨D, d, rfl, hS⟩ := R.form (fun _ => rfl)
    have HS := Lib.hid hS
    have hbw := Bel.trans hbw hb2
    clear R hS hb2 c0 c1 c2 c3 c4 c5 HRA
    go_wp2_with fail
    go_loopw [8] (fun i wr => ∃ k : Nat, k ≤ L.length ∧ i = .int .i64 k ∧ (∀ j, j < k → hasG id L j = false) ∧ Below w2.heap.size w2 wr) (fun i wr => L.length - (intOf i).toNat)
    case atStart => exact ⟨0, by omega, rfl, fun j hj => absurd hj (Nat.not_lt_zero j), Below.refl _ _⟩
    case round =>
      obtain ⟨k, hk, rfl, hall, hbel⟩ := hrel
      have HL := Lib.hid hall
      clear hall
      by_cases hlt : k < L.length
      · obtain ⟨g, o, rfl, hc⟩ := HS.out (by omega)
        have c0 := argB (hc.below hbel hc.1) hlt
        cases hq : L[k]
        · rw [hq] at c0
          have hno : hasG id L k = false := by rw [hasG_at hlt, hq]; rfl
          have HNO := Lib.hid hno
          clear hq hno hc HS
          go_wp2
          go_roundw
          case rel => exact ⟨k + 1, by omega, by go_num, upto_snoc HL.out HNO.out, hbel⟩
          case measure => simp [intOf]; omega
        · rw [hq] at c0
          have hno : hasG id L k = true := by rw [hasG_at hlt, hq]; rfl
          have HNO := Lib.hid hno
          have hbt := Bel.trans hbw hbel
          clear hq hno hc HS
          go_wp2
          go_ret2
          rw [fsRes_0 HC0.out (show k < hs.length by omega) (by rw [HLD.out]; exact HL.out) (by rw [HLD.out]; exact HNO.out)]
          exact ⟨rfl, hbt⟩
      · have hke : k = hs.length := by omega
        have hex : decide ((k : Int) < (L.length : Int)) = false := decide_eq_false (by omega)
        have hbt := Bel.trans hbw hbel
        have HKE := Lib.hid hke
        clear hke HS
        go_wp2
        go_ret2
        rw [fsRes_3 HC0.out (by rw [HLD.out, ← HKE.out]; exact HL.out)]
        exact ⟨rfl, hbt⟩
  · have hz1 : (cc != 0) = true := by simp [hz]
    have HZ := Lib.hid hz
    clear hz
    go_wp2
    go_ret2
    rw [fsRes_c HCC.out HZ.out]
    exact ⟨rfl, hbw⟩
end Go.Proofs.Ytinijfdopkohfaa
