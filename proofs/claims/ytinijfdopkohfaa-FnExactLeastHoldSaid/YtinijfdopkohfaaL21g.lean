/- Chapter 21: the least hold with which a gate is shut at most some times: the walks. -/
import Derived.Test.YtinijfdopkohfaaL21f
namespace Go.Proofs.Ytinijfdopkohfaa
set_option linter.unusedSimpArgs false
set_option linter.unusedVariables false
open Go.RowKit
set_option maxHeartbeats 400000
set_option maxRecDepth 100000
def holdS (x : SGate) (n : Int) : SGate := ⟨x.Id, x.Shut, x.Open, n, x.Shuts, x.Calm⟩
theorem timesOf_eq (x : SGate) (hs : List Int) (n : Int) : (shTo (holdS x n).Shuts (runL (holdS x n) hs hs.length) hs.length).2.1 = timesOf x hs n := rfl
theorem acode_t {x : SGate} {hs : List Int} {t : Int} (h : inr 0 64 t = true) : acode x hs t = acode x hs 0 := by
  unfold acode; rw [h]; rfl
def leV (x : SGate) (hs : List Int) (t : Int) : Int × Bool := match fst (lhP x hs t) (48 - x.Calm).toNat with
  | some k => (x.Calm + 1 + (k : Int), true)
  | none => (0, false)
theorem leV_some {x : SGate} {hs : List Int} {t : Int} {k : Nat} (hk : x.Calm + 1 + (k : Int) ≤ 48) (h : ∀ j, j < k → lhP x hs t j = false) (hp : lhP x hs t k = true) : leV x hs t = (x.Calm + 1 + (k : Int), true) := by
  rw [leV, fst_some (by omega) h hp]
theorem leV_none {x : SGate} {hs : List Int} {t : Int} {n : Nat} (hn : (48 - x.Calm).toNat ≤ n) (h : ∀ j, j < n → lhP x hs t j = false) : leV x hs t = (0, false) := by
  rw [leV, fst_none (fun j hj => h j (by omega))]
theorem lhRes_leV {x : SGate} {hs : List Int} {t : Int} (hc : acode x hs t = 0) : lhRes x hs t = orNF (leV x hs t).1 (leV x hs t).2 := by
  rw [lhRes, if_pos hc, leV]
  cases fst (lhP x hs t) (48 - x.Calm).toNat <;> rfl
theorem leastHold1_any (x : SGate) (hs : List Int) (b c : Nat) (m t n : Int) (g1 g2 g3 base : Nat) (w : World) (B1 : Box 46 w g1 #[.string (holdS x m).Id, .int .i64 (holdS x m).Shut, .int .i64 (holdS x m).Open, .int .i64 (holdS x m).Hold, .bool (holdS x m).Shuts, .int .i64 (holdS x m).Calm]) (B2 : Box 43 w g2 #[.slice (some ⟨b, 0, none⟩) hs.length c])
    (B3 : Box 2 w g3 #[.int .i64 t]) (A : Arr intc 1 w b hs) (hn : hs.length ≤ 1048576) (h1 : base ≤ g1) (h12 : g2 ≠ g1) (h13 : g3 ≠ g1) (hbb : b < base) (hbs : base ≤ w.heap.size) (hx : bdGate (holdS x n)) :
    Calls Try.prog 71 #[.int .i64 n, .pointer (some ⟨g1, 0, none⟩), .pointer (some ⟨g2, 0, none⟩), .pointer (some ⟨g3, 0, none⟩)] w fun e w' =>
      e = .returned (.bool (decide (timesOf x hs n ≤ t))) ∧ Below base w w' ∧ Box 46 w' g1 #[.string (holdS x n).Id, .int .i64 (holdS x n).Shut, .int .i64 (holdS x n).Open, .int .i64 (holdS x n).Hold, .bool (holdS x n).Shuts, .int .i64 (holdS x n).Calm] ∧ Box 43 w' g2 #[.slice (some ⟨b, 0, none⟩) hs.length c] ∧ Box 2 w' g3 #[.int .i64 t] := by
  have HA := Lib.hid A
  have H1 := Lib.hid (B1.set 3 (.int .i64 n))
  have H2 := Lib.hid (B2.far (p := ⟨g1, 3, none⟩) h12 (.int .i64 n))
  have H3 := Lib.hid (B3.far (p := ⟨g1, 3, none⟩) h13 (.int .i64 n))
  have H4 := Lib.hid ((Below.refl base w).setCell (p := ⟨g1, 3, none⟩) h1 (.int .i64 n))
  have HX := Lib.hid hx
  have hne1 : (g1 == g2) = false := by simpa using fun h => h12 h.symm
  have hne2 : (g1 == g3) = false := by simpa using fun h => h13 h.symm
  have c0 : w.cell? ⟨g1, 0, none⟩ = some (.string (holdS x m).Id) := B1.cell 0
  have c1 : w.cell? ⟨g1, 1, none⟩ = some (.int .i64 (holdS x m).Shut) := B1.cell 1
  have c2 : w.cell? ⟨g1, 2, none⟩ = some (.int .i64 (holdS x m).Open) := B1.cell 2
  have c3 : w.cell? ⟨g1, 3, none⟩ = some (.int .i64 (holdS x m).Hold) := B1.cell 3
  have c4 : w.cell? ⟨g1, 4, none⟩ = some (.bool (holdS x m).Shuts) := B1.cell 4
  have c5 : w.cell? ⟨g1, 5, none⟩ = some (.int .i64 (holdS x m).Calm) := B1.cell 5
  have z0 : w.frozen? ⟨g1, 0, none⟩ = false := B1.free 0
  have z1 : w.frozen? ⟨g1, 1, none⟩ = false := B1.free 1
  have z2 : w.frozen? ⟨g1, 2, none⟩ = false := B1.free 2
  have z3 : w.frozen? ⟨g1, 3, none⟩ = false := B1.free 3
  have z4 : w.frozen? ⟨g1, 4, none⟩ = false := B1.free 4
  have z5 : w.frozen? ⟨g1, 5, none⟩ = false := B1.free 5
  have d0 : w.cell? ⟨g2, 0, none⟩ = some (.slice (some ⟨b, 0, none⟩) hs.length c) := B2.cell 0
  clear A B1 B2 B3 hx
  go_enter Try.func71, Try.ntmps71
  go_wp2_with fail
  have H5 := H4.out
  generalize w.setCell ⟨g1, 3, none⟩ (.int .i64 n) = W at H1 H2 H3 H4 H5 ⊢
  clear c0 c1 c2 c3 c4 c5 z0 z1 z2 z3 z4 z5 d0
  refine (shutHours_any (holdS x n) hs b c _ (HA.out.upto hbb H5) hn HX.out).mono ?_
  rw [timesOf_eq]
  rintro e w2 ⟨rfl, hb2⟩
  have B3 := H3.out.below hb2
  have e0 : w2.cell? ⟨g3, 0, none⟩ = some (.int .i64 t) := B3.cell 0
  have hbt := H5.trans (hb2.mono (Nat.le_trans hbs H5.size))
  have H3 := Lib.hid B3
  have H1 := Lib.hid (H1.out.below hb2)
  have H2 := Lib.hid (H2.out.below hb2)
  clear B3 H4 H5 hb2
  go_wp2
  go_ret
  exact ⟨rfl, hbt, H1.out, H2.out, H3.out⟩
theorem least_any (x : SGate) (hs : List Int) (b c : Nat) (m t : Int) (g1 g2 g3 base : Nat) (w : World) (B1 : Box 46 w g1 #[.string (holdS x m).Id, .int .i64 (holdS x m).Shut, .int .i64 (holdS x m).Open, .int .i64 (holdS x m).Hold, .bool (holdS x m).Shuts, .int .i64 (holdS x m).Calm]) (B2 : Box 43 w g2 #[.slice (some ⟨b, 0, none⟩) hs.length c])
    (B3 : Box 2 w g3 #[.int .i64 t]) (A : Arr intc 1 w b hs) (hn : hs.length ≤ 1048576) (h1 : base ≤ g1) (h12 : g2 ≠ g1) (h13 : g3 ≠ g1) (hbb : b < base) (hbs : base ≤ w.heap.size) (hx : bdGate x) :
    Calls Try.prog 70 #[.int .i64 (x.Calm + 1), .int .i64 48, .func (.func 71) #[] #[.pointer (some ⟨g1, 0, none⟩), .pointer (some ⟨g2, 0, none⟩), .pointer (some ⟨g3, 0, none⟩)]] w fun e w' =>
      e = .returned (.tuple #[.int .i64 (leV x hs t).1, .bool (leV x hs t).2]) ∧ Below base w w' := by
  have HB := Lib.hid (show ∃ m, Box 46 w g1 #[.string (holdS x m).Id, .int .i64 (holdS x m).Shut, .int .i64 (holdS x m).Open, .int .i64 (holdS x m).Hold, .bool (holdS x m).Shuts, .int .i64 (holdS x m).Calm] from ⟨m, B1⟩)
  have H2 := Lib.hid B2
  have H3 := Lib.hid B3
  have HA := Lib.hid A
  clear B1 B2 B3 A
  unfold bdGate at hx
  go_enter Try.func70, Try.ntmps70
  go_wp2_with fail
  go_loopw [8] (fun i wr => ∃ k : Nat, x.Calm + (k : Int) ≤ 48 ∧ i = .int .i64 (x.Calm + 1 + (k : Int)) ∧ (∀ j, j < k → lhP x hs t j = false) ∧ (∃ m, Box 46 wr g1 #[.string (holdS x m).Id, .int .i64 (holdS x m).Shut, .int .i64 (holdS x m).Open, .int .i64 (holdS x m).Hold, .bool (holdS x m).Shuts, .int .i64 (holdS x m).Calm]) ∧ Box 43 wr g2 #[.slice (some ⟨b, 0, none⟩) hs.length c] ∧ Box 2 wr g3 #[.int .i64 t] ∧ Below base w wr) (fun i wr => (49 - intOf i).toNat)
  case atStart => exact ⟨0, by omega, by simp, fun j hj => absurd hj (Nat.not_lt_zero j), HB.out, H2.out, H3.out, Below.refl _ _⟩
  case round =>
    clear HB H2 H3
    obtain ⟨k, hk, rfl, hall, ⟨mm, B1⟩, B2, B3, hbel⟩ := hrel
    have HL := Lib.hid hall
    clear hall
    by_cases hlt : x.Calm + 1 + (k : Int) ≤ 48
    · have hl1 := leastHold1_any x hs b c mm t (x.Calm + 1 + (k : Int)) g1 g2 g3 base wr B1 B2 B3 (HA.out.upto hbb hbel) hn h1 h12 h13 hbb (Nat.le_trans hbs hbel.size) (by simp only [bdGate, holdS]; omega)
      have HL1 := Lib.hid hl1
      clear hl1 B1 B2 B3
      cases hq : decide (timesOf x hs (x.Calm + 1 + (k : Int)) ≤ t)
      · have HQ := Lib.hid hq
        clear hq
        go_wp2_with fail
        refine (HL1.out).mono ?_
        rw [HQ.out]
        rintro e w2 ⟨rfl, hb2, B1, B2, B3⟩
        have HBB := Lib.hid (show ∃ m, Box 46 w2 g1 #[.string (holdS x m).Id, .int .i64 (holdS x m).Shut, .int .i64 (holdS x m).Open, .int .i64 (holdS x m).Hold, .bool (holdS x m).Shuts, .int .i64 (holdS x m).Calm] from ⟨_, B1⟩)
        have H2 := Lib.hid B2
        have H3 := Lib.hid B3
        clear B1 B2 B3 HL1
        go_wp2
        go_roundw
        case rel => exact ⟨k + 1, by omega, by go_num, upto_snoc HL.out HQ.out, HBB.out, H2.out, H3.out, hbel.trans hb2⟩
        case measure => simp [intOf]; omega
      · have HQ := Lib.hid hq
        clear hq
        go_wp2_with fail
        refine (HL1.out).mono ?_
        rw [HQ.out]
        rintro e w2 ⟨rfl, hb2, _, _, _⟩
        clear HL1
        go_wp2
        go_ret2
        rw [leV_some hlt HL.out HQ.out]
        exact ⟨rfl, hbel.trans hb2⟩
    · clear B1 B2 B3
      go_wp2
      go_ret2
      rw [leV_none (n := k) (by omega) HL.out]
      exact ⟨rfl, hbel⟩
theorem leV_bd {x : SGate} {hs : List Int} {t : Int} (hx : bdGate x) : 0 ≤ (leV x hs t).1 ∧ (leV x hs t).1 ≤ 1000 := by
  unfold bdGate at hx
  unfold leV fst
  cases h : List.find? (lhP x hs t) (List.range (48 - x.Calm).toNat) with
  | none => simp
  | some k => have := List.mem_range.1 (List.mem_of_find?_eq_some h); simp only; omega
theorem LeastHold_any (x : SGate) (hs : List Int) (b c : Nat) (t : Int) (w : World) (A : Arr intc 1 w b hs) (hn : hs.length ≤ 1048576) (hf : x.Id.size ≤ 9223372036854775807) :
    Calls Try.prog 31 #[.agg #[.string x.Id, .int .i64 x.Shut, .int .i64 x.Open, .int .i64 x.Hold, .bool x.Shuts, .int .i64 x.Calm], .slice (some ⟨b, 0, none⟩) hs.length c, .int .i64 t] w fun e w' => e = .returned (.tuple #[.int .i64 (lhRes x hs t).1, .int .i64 (lhRes x hs t).2]) ∧ Below w.heap.size w w' := by
  have hbl := A.1
  have HA := Lib.hid A
  clear A
  obtain ⟨cc, hcc⟩ : ∃ cc, acode x hs t = cc := ⟨_, rfl⟩
  have hca := codeGate_any x hs b c t
  rw [hcc] at hca
  have HCA := Lib.hid hca
  have HCC := Lib.hid hcc
  clear hcc hca
  go_enter Try.func31, Try.ntmps31
  go_wp2_with fail
  refine calls_box_out3 ?_
  intro W hbw B1 B2 B3
  refine (HCA.out _ (HA.out.below hbw) hn hf).mono ?_
  rintro e w1 ⟨rfl, hb1⟩
  have B1 := B1.below hb1
  have HB2 := Lib.hid (B2.below hb1)
  have HB3 := Lib.hid (B3.below hb1)
  have hbw := Bel.trans hbw hb1
  have hsz := hbw.size
  have HA1 := Lib.hid (HA.out.below hbw)
  have HB1 := Lib.hid B1
  clear HCA HA hb1 B2 B3
  have e0 : w1.cell? ⟨w.heap.size, 0, none⟩ = some (.string x.Id) := B1.cell 0
  have e1 : w1.cell? ⟨w.heap.size, 1, none⟩ = some (.int .i64 x.Shut) := B1.cell 1
  have e2 : w1.cell? ⟨w.heap.size, 2, none⟩ = some (.int .i64 x.Open) := B1.cell 2
  have e3 : w1.cell? ⟨w.heap.size, 3, none⟩ = some (.int .i64 x.Hold) := B1.cell 3
  have e4 : w1.cell? ⟨w.heap.size, 4, none⟩ = some (.bool x.Shuts) := B1.cell 4
  have e5 : w1.cell? ⟨w.heap.size, 5, none⟩ = some (.int .i64 x.Calm) := B1.cell 5
  have z0 : w1.frozen? ⟨w.heap.size, 0, none⟩ = false := B1.free 0
  have z1 : w1.frozen? ⟨w.heap.size, 1, none⟩ = false := B1.free 1
  have z2 : w1.frozen? ⟨w.heap.size, 2, none⟩ = false := B1.free 2
  have z3 : w1.frozen? ⟨w.heap.size, 3, none⟩ = false := B1.free 3
  have z4 : w1.frozen? ⟨w.heap.size, 4, none⟩ = false := B1.free 4
  have z5 : w1.frozen? ⟨w.heap.size, 5, none⟩ = false := B1.free 5
  clear B1 z0 z1 z2 z3 z4 z5
  by_cases hz : cc = 0
  · have hz1 : (cc != 0) = false := by simp [hz]
    have hc0 := HCC.out
    rw [hz] at hc0
    have hx := bd_of_code hc0
    have HLR := Lib.hid (lhRes_leV hc0)
    have hxb := hx
    unfold bdGate at hxb
    have hlv := leV_bd (hs := hs) (t := t) hx
    have hl := least_any x hs b c x.Hold t w.heap.size (w.heap.size + 1) (w.heap.size + 2) w.heap.size w1 HB1.out HB2.out HB3.out HA1.out hn (Nat.le_refl _) (by omega) (by omega) hbl hsz hx
    obtain ⟨q, hq⟩ : ∃ q, leV x hs t = q := ⟨_, rfl⟩
    rw [hq] at hl hlv
    have HQ := Lib.hid hq
    have HLE := Lib.hid hl
    clear hc0 hx hl hq
    go_wp2_with fail
    refine HLE.out.mono ?_
    rintro e w2 ⟨rfl, hb2⟩
    have hbw := hbw.trans hb2
    clear HLE HB1 HB2 HB3 HA1 e0 e1 e2 e3 e4 e5 hb2
    go_wp2_with (go_at_call 67; refine (orNotFound_any _ _ _).mono ?_; rintro e w' ⟨rfl, rfl⟩)
    go_ret2
    rw [HLR.out, HQ.out]
    exact ⟨rfl, hbw⟩
  · have hz1 : (cc != 0) = true := by simp [hz]
    have HZ := Lib.hid hz
    clear hz
    go_wp2
    go_ret2
    rw [lhRes_c HCC.out HZ.out]
    exact ⟨rfl, hbw⟩
theorem sLeastHold_any (x : SGate) (hs : List Int) (b c : Nat) (t : Int) (w : World) (A : Arr intc 1 w b hs) (hn : hs.length ≤ 1048576) (hf : x.Id.size ≤ 9223372036854775807) :
    Calls Try.prog 30 #[.agg #[.string x.Id, .int .i64 x.Shut, .int .i64 x.Open, .int .i64 x.Hold, .bool x.Shuts, .int .i64 x.Calm], .slice (some ⟨b, 0, none⟩) hs.length c, .int .i64 t] w fun e w' => e = .returned (.tuple #[.int .i64 (lhRes x hs t).1, .int .i64 (lhRes x hs t).2]) ∧ Below w.heap.size w w' := by
  have hbl := A.1
  have HA := Lib.hid A
  clear A
  cases hok : okGate x
  · have h1 := acode_1 (hs := hs) (t := t) hok
    have H1 := Lib.hid h1
    have HOK := Lib.hid hok
    clear h1 hok
    go_enter Try.func30, Try.ntmps30
    go_wp2_with fail
    refine calls_box_out ?_
    intro W hbw B
    refine (Calls.boolIs HOK.out (l21Ok_any x w.heap.size 0 _ (B.cell 0) (B.cell 1) (B.cell 2) (B.cell 3) (B.cell 4) (B.cell 5) hf)).mono ?_
    rintro e w1 ⟨rfl, hb1⟩
    clear B
    go_wp2
    go_ret2
    rw [lhRes_c H1.out (by omega)]
    exact ⟨rfl, Bel.trans hbw hb1⟩
  cases hti : inr 0 64 t
  · have h1 : acode x hs t = 2 := acode_2 hok (by rw [hti, Bool.and_false])
    have H1 := Lib.hid h1
    have HOK := Lib.hid hok
    have HTI := Lib.hid hti
    clear h1 hok hti
    go_enter Try.func30, Try.ntmps30
    go_wp2_with fail
    refine calls_box_out ?_
    intro W hbw B
    refine (Calls.boolIs HOK.out (l21Ok_any x w.heap.size 0 _ (B.cell 0) (B.cell 1) (B.cell 2) (B.cell 3) (B.cell 4) (B.cell 5) hf)).mono ?_
    rintro e w1 ⟨rfl, hb1⟩
    clear B
    go_wp2_with (go_at_call 53; refine (Calls.boolIs HTI.out (l00In_any _ _ _ _)).mono ?_; rintro e w' ⟨rfl, rfl⟩)
    go_ret2
    rw [lhRes_c H1.out (by omega)]
    exact ⟨rfl, Bel.trans hbw hb1⟩
  have hx := bdGate_of hok
  obtain ⟨cc, hcc⟩ : ∃ cc, acode x hs t = cc := ⟨_, rfl⟩
  have hca := l21Ask_any x hs b c
  rw [← acode_t hti, hcc] at hca
  have HCA := Lib.hid hca
  have HCC := Lib.hid hcc
  have HOK := Lib.hid hok
  have HTI := Lib.hid hti
  have HX := Lib.hid hx
  unfold bdGate at hx
  clear hcc hca hok hti
  go_enter Try.func30, Try.ntmps30
  go_wp2_with fail
  refine calls_box_out ?_
  intro W hbw B
  refine (Calls.boolIs HOK.out (l21Ok_any x w.heap.size 0 _ (B.cell 0) (B.cell 1) (B.cell 2) (B.cell 3) (B.cell 4) (B.cell 5) hf)).mono ?_
  rintro e w1 ⟨rfl, hb1⟩
  have B := B.below hb1
  have hbw := Bel.trans hbw hb1
  clear hb1
  go_wp2_with (go_at_call 53; refine (Calls.boolIs HTI.out (l00In_any _ _ _ _)).mono ?_; rintro e w' ⟨rfl, rfl⟩)
  refine (HCA.out w.heap.size 0 _ (HA.out.below hbw) (B.cell 0) (B.cell 1) (B.cell 2) (B.cell 3) (B.cell 4) (B.cell 5) hn hf).mono ?_
  rintro e w2 ⟨rfl, hb1⟩
  have B := B.below hb1
  have hbw := Bel.trans hbw hb1
  have HB := Lib.hid B
  clear hb1 HCA
  have e0 : w2.cell? ⟨w.heap.size, 0, none⟩ = some (.string x.Id) := B.cell 0
  have e1 : w2.cell? ⟨w.heap.size, 1, none⟩ = some (.int .i64 x.Shut) := B.cell 1
  have e2 : w2.cell? ⟨w.heap.size, 2, none⟩ = some (.int .i64 x.Open) := B.cell 2
  have e3 : w2.cell? ⟨w.heap.size, 3, none⟩ = some (.int .i64 x.Hold) := B.cell 3
  have e4 : w2.cell? ⟨w.heap.size, 4, none⟩ = some (.bool x.Shuts) := B.cell 4
  have e5 : w2.cell? ⟨w.heap.size, 5, none⟩ = some (.int .i64 x.Calm) := B.cell 5
  have z0 : w2.frozen? ⟨w.heap.size, 0, none⟩ = false := B.free 0
  have z1 : w2.frozen? ⟨w.heap.size, 1, none⟩ = false := B.free 1
  have z2 : w2.frozen? ⟨w.heap.size, 2, none⟩ = false := B.free 2
  have z3 : w2.frozen? ⟨w.heap.size, 3, none⟩ = false := B.free 3
  have z4 : w2.frozen? ⟨w.heap.size, 4, none⟩ = false := B.free 4
  have z5 : w2.frozen? ⟨w.heap.size, 5, none⟩ = false := B.free 5
  clear z0 z1 z2 z3 z4 z5 B
  by_cases hz : cc = 0
  · have hz1 : (cc != 0) = false := by simp [hz]
    have hc0 := HCC.out
    rw [hz] at hc0
    have HC0 := Lib.hid hc0
    clear hc0
    go_wp2_with fail
    clear e0 e1 e2 e3 e4 e5
    go_loopw [9] (fun i wr => ∃ k : Nat, x.Calm + (k : Int) ≤ 48 ∧ i = .int .i64 (x.Calm + 1 + (k : Int)) ∧ (∀ j, j < k → lhP x hs t j = false) ∧ Box 46 wr w.heap.size #[.string x.Id, .int .i64 x.Shut, .int .i64 x.Open, .int .i64 x.Hold, .bool x.Shuts, .int .i64 x.Calm] ∧ Below w.heap.size w wr) (fun i wr => (49 - intOf i).toNat)
    case atStart => exact ⟨0, by omega, by simp, fun j hj => absurd hj (Nat.not_lt_zero j), HB.out, hbw⟩
    case round =>
      clear HB
      obtain ⟨k, hk, rfl, hall, B, hbel⟩ := hrel
      have HL := Lib.hid hall
      clear hall
      by_cases hlt : x.Calm + 1 + (k : Int) ≤ 48
      · have e0 : wr.cell? ⟨w.heap.size, 0, none⟩ = some (.string x.Id) := B.cell 0
        have e1 : wr.cell? ⟨w.heap.size, 1, none⟩ = some (.int .i64 x.Shut) := B.cell 1
        have e2 : wr.cell? ⟨w.heap.size, 2, none⟩ = some (.int .i64 x.Open) := B.cell 2
        have e3 : wr.cell? ⟨w.heap.size, 3, none⟩ = some (.int .i64 x.Hold) := B.cell 3
        have e4 : wr.cell? ⟨w.heap.size, 4, none⟩ = some (.bool x.Shuts) := B.cell 4
        have e5 : wr.cell? ⟨w.heap.size, 5, none⟩ = some (.int .i64 x.Calm) := B.cell 5
        have z0 : wr.frozen? ⟨w.heap.size, 0, none⟩ = false := B.free 0
        have z1 : wr.frozen? ⟨w.heap.size, 1, none⟩ = false := B.free 1
        have z2 : wr.frozen? ⟨w.heap.size, 2, none⟩ = false := B.free 2
        have z3 : wr.frozen? ⟨w.heap.size, 3, none⟩ = false := B.free 3
        have z4 : wr.frozen? ⟨w.heap.size, 4, none⟩ = false := B.free 4
        have z5 : wr.frozen? ⟨w.heap.size, 5, none⟩ = false := B.free 5
        clear z0 z1 z2 z3 z4 z5
        have HB := Lib.hid B
        clear B
        have hlt2 := l21Times_any (holdS x (x.Calm + 1 + (k : Int))) hs b c
        rw [timesOf_eq] at hlt2
        have HLT := Lib.hid hlt2
        clear hlt2
        cases hq : decide (timesOf x hs (x.Calm + 1 + (k : Int)) ≤ t)
        · have HQ := Lib.hid hq
          clear hq
          go_wp2_with fail
          refine calls_box_out ?_
          intro W3 hb3 B3
          have hbt := Bel.trans hbel hb3
          refine (HLT.out _ (HA.out.below hbt) hn (by simp only [bdGate, holdS]; omega)).mono ?_
          rintro e w4 ⟨rfl, hb4⟩
          have hb34 := Bel.trans hb3 hb4
          have hbt := Bel.trans hbt hb4
          have HB := Lib.hid (HB.out.below hb34)
          clear B3 HLT e0 e1 e2 e3 e4 e5
          obtain ⟨hh, hhh⟩ : ∃ hh, (shTo (holdS x (x.Calm + 1 + (k : Int))).Shuts (runL (holdS x (x.Calm + 1 + (k : Int))) hs hs.length) hs.length).1 = hh := ⟨_, rfl⟩
          rw [hhh]
          clear hhh
          have hq := HQ.out
          go_wp2
          clear hq
          go_roundw
          case rel => exact ⟨k + 1, by omega, by go_num, upto_snoc HL.out HQ.out, HB.out, hbt⟩
          case measure => simp [intOf]; omega
        · have HQ := Lib.hid hq
          clear hq
          go_wp2_with fail
          refine calls_box_out ?_
          intro W3 hb3 B3
          have hbt := Bel.trans hbel hb3
          refine (HLT.out _ (HA.out.below hbt) hn (by simp only [bdGate, holdS]; omega)).mono ?_
          rintro e w4 ⟨rfl, hb4⟩
          have hbt := Bel.trans hbt hb4
          clear B3 HLT e0 e1 e2 e3 e4 e5 HB
          obtain ⟨hh, hhh⟩ : ∃ hh, (shTo (holdS x (x.Calm + 1 + (k : Int))).Shuts (runL (holdS x (x.Calm + 1 + (k : Int))) hs hs.length) hs.length).1 = hh := ⟨_, rfl⟩
          rw [hhh]
          clear hhh
          have hq := HQ.out
          go_wp2
          go_ret2
          rw [lhRes_0 HC0.out hlt HL.out HQ.out]
          exact ⟨rfl, hbt⟩
      · clear B
        have hex : decide (x.Calm + 1 + (k : Int) ≤ 48) = false := decide_eq_false hlt
        go_wp2
        go_ret2
        rw [lhRes_3 HC0.out (n := k) (by omega) HL.out]
        exact ⟨rfl, hbel⟩
  · have hz1 : (cc != 0) = true := by simp [hz]
    have HZ := Lib.hid hz
    clear hz
    go_wp2
    go_ret2
    rw [lhRes_c HCC.out HZ.out]
    exact ⟨rfl, hbw⟩
end Go.Proofs.Ytinijfdopkohfaa
