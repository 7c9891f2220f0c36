/- Chapter 20: the table of what was told and seen: the walks. -/
import Derived.Test.YtcjalooaikfkbaaL20
import Derived.Test.YtcjalooaikfkbaaLst
import Derived.Test.YtcjalooaikfkbaaRowSG
namespace Go.Proofs.Ytcjalooaikfkbaa
set_option linter.unusedSimpArgs false
set_option linter.unusedVariables false
open Go.RowKit
set_option maxHeartbeats 400000
set_option maxRecDepth 100000
theorem okV_bd {x : SVerified} (h : okVerified x = true) : 1 ≤ x.Told ∧ x.Told ≤ 5 ∧ 1 ≤ x.Seen ∧ x.Seen ≤ 5 := by simp [okVerified, inr] at h; omega
def qTS (t s : Int) (x : SVerified) : Bool := x.Told == t && x.Seen == s
def cTS (xs : List SVerified) (k i j : Nat) : Int := (cntL (qTS ((i : Int) + 1) ((j : Int) + 1)) xs k : Int)
def tabRow (xs : List SVerified) (k i : Nat) : List Int := (List.range 5).map (cTS xs k i)
def tabL (xs : List SVerified) : List (List Int) := (List.range 5).map (tabRow xs xs.length)
def tbRes (xs : List SVerified) : List (List Int) × Int := if vlVerified xs then (tabL xs, 0) else ([], 1)
theorem tbRes_1 {xs : List SVerified} (h : vlVerified xs = false) : tbRes xs = ([], 1) := by rw [tbRes, if_neg (by rw [h]; simp)]
theorem tbRes_0 {xs : List SVerified} (h : vlVerified xs = true) : tbRes xs = (tabL xs, 0) := by rw [tbRes, if_pos h]
theorem tabRow_len (xs : List SVerified) (k i : Nat) : (tabRow xs k i).length = 5 := by simp [tabRow]
theorem tabL_get {xs : List SVerified} {i : Nat} (h : i < 5) : getF (tabL xs) i = tabRow xs xs.length i := by
  simp [getF, tabL, List.getD, h]
theorem tbRes_len (xs : List SVerified) : (tbRes xs).1.length ≤ 5 := by
  cases h : vlVerified xs
  · rw [tbRes_1 h]; simp
  · rw [tbRes_0 h]; simp [tabL]
theorem tbRes_two (xs : List SVerified) (i : Nat) : (getF (tbRes xs).1 i).length ≤ 5 := by
  cases h : vlVerified xs
  · rw [tbRes_1 h]; simp [getF]
  · rw [tbRes_0 h]
    by_cases hi : i < 5
    · rw [tabL_get hi, tabRow_len]; exact Nat.le_refl _
    · have : getF (tabL xs) i = [] := by simp [getF, tabL, List.getD, hi]
      rw [this]; simp
theorem cTS_bd (xs : List SVerified) (k i j : Nat) : 0 ≤ cTS xs k i j ∧ cTS xs k i j ≤ k := by
  have := cntL_le (qTS ((i : Int) + 1) ((j : Int) + 1)) xs k
  unfold cTS; omega
theorem tabRow_0 (xs : List SVerified) (i : Nat) : tabRow xs 0 i = List.replicate 5 0 := by
  have : ∀ j, cTS xs 0 i j = 0 := fun j => by simp [cTS, cntL_0]
  simp [tabRow, this, List.range_succ]
theorem tabRow_step {xs : List SVerified} {k i j : Nat} (hk : k < xs.length) (hi : xs[k].Told - 1 = (i : Int)) (hj : xs[k].Seen - 1 = (j : Int)) (hj5 : j < 5) (m : Nat) :
    tabRow xs (k + 1) m = if m = i then (tabRow xs k i).set j (cTS xs k i j + 1) else tabRow xs k m := by
  have step : ∀ a b, cTS xs (k + 1) a b = if a = i ∧ b = j then cTS xs k a b + 1 else cTS xs k a b := fun a b => by
    unfold cTS
    by_cases h : a = i ∧ b = j
    · rw [if_pos h, cntL_yes hk (by simp [qTS]; omega)]; simp
    · rw [if_neg h, cntL_no hk (by simp [qTS]; omega)]
  apply List.ext_getElem?
  intro b
  by_cases hm : m = i
  · subst hm
    rw [if_pos rfl]
    by_cases hb : b < 5
    · by_cases e : j = b
      · subst e
        rw [List.getElem?_set_self (by rw [tabRow_len]; exact hj5)]
        simp [tabRow, hb, step]
      · rw [List.getElem?_set_ne e]
        simp [tabRow, hb, step, Ne.symm e]
    · rw [List.getElem?_eq_none (by rw [tabRow_len]; omega), List.getElem?_eq_none (by rw [List.length_set, tabRow_len]; omega)]
  · rw [if_neg hm]
    by_cases hb : b < 5
    · simp [tabRow, hb, step, hm]
    · rw [List.getElem?_eq_none (by rw [tabRow_len]; omega), List.getElem?_eq_none (by rw [tabRow_len]; omega)]
def tbA (T k : Nat) : Array Value := ((List.range 5).map fun i => if i < k then Value.slice (some ⟨T + 1 + i, 0, none⟩) 5 5 else Value.slice none 0 0).toArray
theorem tbA_set {T k : Nat} (hk : k < 5) : (tbA T k).setIfInBounds k (.slice (some ⟨T + 1 + k, 0, none⟩) 5 5) = tbA T (k + 1) := by
  rcases (show k = 0 ∨ k = 1 ∨ k = 2 ∨ k = 3 ∨ k = 4 by omega) with rfl | rfl | rfl | rfl | rfl <;> rfl
theorem tbA_size (T k : Nat) : (tbA T k).size = 5 := by simp [tbA]
theorem tbA_0 (T : Nat) : madeCells (Value.slice none 0 0).cells 5 = tbA T 0 := by
  apply Array.ext_getElem?
  intro i
  show (madeCells #[Value.slice none 0 0] 5)[i]? = _
  by_cases hi : i < 5
  · simp [madeCells, hi, Nat.mod_one, tbA]
  · simp [madeCells, tbA, hi]
theorem z5_own {t : TypeId} {w : World} {g : Nat} (h : Box t w g (madeCells (Value.int .i64 0).cells 5)) : Own intc 1 t w g (List.replicate 5 0) := by
  refine ⟨_, h, by simp [size_madeCells], fun i hi j v hv => ?_⟩
  have hj : j = 0 := by
    have := (List.getElem?_eq_some_iff.1 hv).1
    simpa [intc] using this
  subst hj
  simp only [List.length_replicate] at hi
  show (madeCells #[Value.int .i64 0] 5)[i * 1 + 0]? = some v
  rw [Nat.mul_one, Nat.add_zero]
  simp [intc] at hv
  subst hv
  simp [madeCells, hi, Nat.mod_one]
  rcases (show i = 0 ∨ i = 1 ∨ i = 2 ∨ i = 3 ∨ i = 4 by omega) with rfl | rfl | rfl | rfl | rfl <;> rfl
theorem Own.set {t : TypeId} {w : World} {g j : Nat} {l : List Int} {v : Int} (h : Own intc 1 t w g l) (hj : j < l.length) : Own intc 1 t (w.setCell ⟨g, j, none⟩ (.int .i64 v)) g (l.set j v) := by
  obtain ⟨arr, h1, h2, h3⟩ := h
  refine ⟨_, heap_set h1 _, by simpa using h2, fun i hi m u hu => ?_⟩
  have hm : m = 0 := by
    have := (List.getElem?_eq_some_iff.1 hu).1
    simpa [intc] using this
  subst hm
  rw [List.length_set] at hi
  rw [Nat.mul_one, Nat.add_zero]
  by_cases e : j = i
  · subst e
    rw [Array.getElem?_setIfInBounds_self_of_lt (by omega)]
    simpa [intc] using hu
  · rw [Array.getElem?_setIfInBounds_ne e]
    have := h3 i hi 0 u (by simpa [intc, e] using hu)
    rwa [Nat.mul_one, Nat.add_zero] at this
theorem TableOf_any (xs : List SVerified) (b c : Nat) (w : World) (A : Arr SVerified.cells 3 w b xs) (hn : xs.length ≤ 1048576) :
    Calls Try.prog 22 #[.slice (some ⟨b, 0, none⟩) xs.length c] w fun e w' => (∃ v, e = .returned (.tuple #[v, .int .i64 (tbRes xs).2]) ∧ RowF 38 2 w' w.heap.size w'.heap.size v (tbRes xs).1.length (getF (tbRes xs).1)) ∧ Below w.heap.size w w' := by
  have HA := Lib.hid A
  clear A
  cases hv : vlVerified xs
  · have HV := Lib.hid hv
    have HR := Lib.hid (tbRes_1 hv)
    clear hv
    go_enter Try.func22, Try.ntmps22
    go_wp2_with (go_at_call 60; refine (Calls.boolIs HV.out (ValidVerified_any xs b c _ HA.out hn)).mono ?_; rintro e w1 ⟨rfl, hb1⟩)
    go_ret2
    rw [HR.out]
    exact ⟨⟨_, rfl, RowF.nil⟩, hb1⟩
  have HV := Lib.hid hv
  have HR := Lib.hid (tbRes_0 hv)
  have hlen := vlVerified_len hv
  clear hv
  have hmk1 : ∀ W : World, (Instr.makeSlice 48 (.int .i64 5) (.int .i64 5)).run Try.prog W = .ok (.slice (some ⟨W.heap.size, 0, none⟩) 5 5) (W.alloc (.cells (madeCells (Value.slice none 0 0).cells 5) 38)) := mk_slice (P := Try.prog) 48 38 (.slice none 0 0) 1 24 (by kernel_rfl) (by kernel_rfl) (by omega) 5 (by omega)
  have hmk2 : ∀ W : World, (Instr.makeSlice 38 (.int .i64 5) (.int .i64 5)).run Try.prog W = .ok (.slice (some ⟨W.heap.size, 0, none⟩) 5 5) (W.alloc (.cells (madeCells (Value.int .i64 0).cells 5) 2)) := mk_slice (P := Try.prog) 38 2 (.int .i64 0) 1 8 (by kernel_rfl) (by kernel_rfl) (by omega) 5 (by omega)
  go_enter Try.func22, Try.ntmps22
  go_wp2_with (go_at_call 60; refine (Calls.boolIs HV.out (ValidVerified_any xs b c _ HA.out hn)).mono ?_; rintro e w1 ⟨rfl, hb1⟩)
  have hs1 := hb1.size
  go_loopw [14] (fun i wr => ∃ k : Nat, k ≤ 5 ∧ i = .int .i64 k ∧ Box 38 wr w1.heap.size (tbA w1.heap.size k) ∧ (∀ i, i < k → Box 2 wr (w1.heap.size + 1 + i) (madeCells (Value.int .i64 0).cells 5)) ∧ wr.heap.size = w1.heap.size + 1 + k ∧ Below w.heap.size w wr) (fun i wr => 5 - (intOf i).toNat)
  case atStart => exact ⟨0, by omega, rfl, by rw [← tbA_0]; exact Box.new _ _ _, fun i h0 => absurd h0 (Nat.not_lt_zero i), by simp, Bel.alloc hb1 _⟩
  case round =>
    obtain ⟨k, hk, rfl, BT, hrows, hsz, hbel⟩ := hrel
    have HSZ := Lib.hid hsz
    have HRW := Lib.hid hrows
    have HBT := Lib.hid BT
    clear hsz hrows
    by_cases hlt : k < 5
    · have c0 : wr.cell? ⟨w1.heap.size, k, none⟩ = some ((tbA w1.heap.size k)[k]'(by rw [tbA_size]; exact hlt)) := (BT.cell k).trans (Array.getElem?_eq_getElem _)
      have z0 : wr.frozen? ⟨w1.heap.size, k, none⟩ = false := BT.free k
      have hgl := BT.lt
      clear BT
      go_wp2
      go_roundw
      case rel =>
        refine ⟨k + 1, by omega, by go_num, ?_, ?_, ?_, ?_⟩
        · rw [← tbA_set hlt]
          have h1 := (HBT.out.set k (.slice (some ⟨wr.heap.size, 0, none⟩) 5 5)).alloc (.cells (madeCells (Value.int .i64 0).cells 5) 2)
          rw [HSZ.out] at h1 ⊢
          exact h1
        · intro i hi
          rcases (show i < k ∨ i = k by omega) with h | h
          · exact ((HRW.out i h).far (p := ⟨w1.heap.size, k, none⟩) (by show w1.heap.size + 1 + i ≠ w1.heap.size; omega) _).alloc _
          · subst h
            have h2 := Box.new (wr.setCell ⟨w1.heap.size, i, none⟩ (.slice (some ⟨wr.heap.size, 0, none⟩) 5 5)) 2 (madeCells (Value.int .i64 0).cells 5)
            have e2 : (wr.setCell ⟨w1.heap.size, i, none⟩ (.slice (some ⟨wr.heap.size, 0, none⟩) 5 5)).heap.size = wr.heap.size := by simp
            rw [e2, HSZ.out] at h2
            rw [HSZ.out]
            exact h2
        · simp [HSZ.out]; omega
        · exact Bel.alloc (Bel.setCell hbel (p := ⟨w1.heap.size, k, none⟩) hs1 _) _
      case measure => simp [intOf]; omega
    · obtain rfl : k = 5 := by omega
      have hRF : RowF 38 2 wr w.heap.size (w1.heap.size + 6) (.slice (some ⟨w1.heap.size, 0, none⟩) 5 5) 5 (tabRow xs 0) := by
        refine ⟨(List.range 5).map fun i => (w1.heap.size + 1 + i, 5), by simp, ⟨by rw [flat_len (sz := 1) (fun _ => rfl)], Or.inr ⟨w1.heap.size, 5, _, by simp, hs1, HBT.out, by simp, by unfold maxLen; omega, tbA_size _ _, rfl⟩⟩, fun g hg => ?_, fun i hi => ?_, fun i j hi hj hij => ?_⟩
        · have : w1.heap.size = g := by simpa [Value.ownBlock] using hg
          omega
        · simp only [List.length_map, List.length_range] at hi
          simp only [List.getElem_map, List.getElem_range]
          refine ⟨tabRow_len _ _ _, by omega, by omega, ?_⟩
          rw [tabRow_0]
          exact z5_own (HRW.out i hi)
        · simp only [List.getElem_map, List.getElem_range] at hij
          omega
      have htop : w1.heap.size + 6 ≤ wr.heap.size := by have := HSZ.out; omega
      have HRF := Lib.hid hRF
      clear hRF HRW BT HBT HSZ hmk1 hmk2
      go_wp2_with fail
      go_loopw [24] (fun i wr => ∃ k : Nat, k ≤ xs.length ∧ i = .int .i64 k ∧ RowF 38 2 wr w.heap.size (w1.heap.size + 6) (.slice (some ⟨w1.heap.size, 0, none⟩) 5 5) 5 (tabRow xs k) ∧ w1.heap.size + 6 ≤ wr.heap.size ∧ Below w.heap.size w wr) (fun i wr => xs.length - (intOf i).toNat)
      case atStart => exact ⟨0, by omega, rfl, HRF.out, htop, hbel⟩
      case round =>
        clear HRF hbel htop
        obtain ⟨k, hk, rfl, hRF, htop, hbel⟩ := hrel
        rename World => wr
        have HRF := Lib.hid hRF
        clear hRF
        by_cases hlk : k < xs.length
        · obtain ⟨e0, e1, e2⟩ := SVerified.elem (HA.out.below hbel) hlk
          have hob := okV_bd (vlVerified_ok HV.out k hlk)
          obtain ⟨i, hi⟩ : ∃ i : Nat, xs[k].Told - 1 = (i : Int) := ⟨(xs[k].Told - 1).toNat, by omega⟩
          obtain ⟨j, hj⟩ : ∃ j : Nat, xs[k].Seen - 1 = (j : Int) := ⟨(xs[k].Seen - 1).toNat, by omega⟩
          have hi5 : i < 5 := by omega
          have hj5 : j < 5 := by omega
          have hcb := cTS_bd xs k i j
          have hst := tabRow_step hlk hi hj hj5
          obtain ⟨q, hq⟩ : ∃ q, cTS xs k i j = q := ⟨_, rfl⟩
          rw [hq] at hcb hst
          have HST := Lib.hid hst
          have hwi := IntWalk.i64_in (i : Int) (by omega)
          have hwj := IntWalk.i64_in (j : Int) (by omega)
          have hwq := IntWalk.i64_in (q + 1) (by omega)
          clear hst
          go_wp2_with fail
          refine wp_box_out ?_
          intro W hbx BX
          have hbelx := Bel.trans hbel hbx
          have hRx := HRF.out.below hbx
          have htopx : w1.heap.size + 6 ≤ W.heap.size := by have := hbx.size; omega
          obtain ⟨b0, o0, g, hA, hb0, hc0, hO, hg1, hg2, _⟩ := hRx.at (by decide) hi5
          injection hA with hA
          injection hA with hA1 hA2 _
          subst hA1
          subst hA2
          rw [tabRow_len, Nat.zero_add] at hc0
          have hjl : j < (tabRow xs k i).length := by rw [tabRow_len]; exact hj5
          have hcj : W.cell? ⟨g, j, none⟩ = some (.int .i64 q) := by
            have := hO.arr.2 j hjl 0 _ rfl
            rw [Nat.mul_one, Nat.add_zero] at this
            rw [this]
            have e : (tabRow xs k i)[j] = q := by simp [tabRow, hq]
            rw [e]
          have hgl := hO.arr.1
          have HRX := Lib.hid hRx
          have hBXl := BX.lt
          have p0 := Past.box BX (j := 0) (v := .int .i64 xs[k].Day) rfl
          have p1 := Past.box BX (j := 1) (v := .int .i64 xs[k].Told) rfl
          have p2 := Past.box BX (j := 2) (v := .int .i64 xs[k].Seen) rfl
          have pt := Past.cell hc0 hb0
          have pc := Past.cell hcj hgl
          clear BX hRx hO hc0 hcj hq e0 e1 e2
          refine wp_region_past_tail 13 (by kernel_rfl) (by kernel_rfl) ?_
          simp only [List.take_succ_cons, List.take_zero, List.drop_succ_cons, List.drop_zero]
          repeat (go_big_quiet_step (fail))
          refine wpQuiet_nil ?_
          intro W3 hw'
          obtain ⟨⟨W_, hb3⟩, hw''⟩ := hw'
          subst hw''
          have hRy := HRX.out.below hb3
          have hbel3 := Bel.trans hbelx hb3
          have ht3 : W3.cell? ⟨w1.heap.size, i, none⟩ = some (.slice (some ⟨g, 0, none⟩) 5 5) := pt ⟨W3, hb3⟩
          have hcj : W3.cell? ⟨g, j, none⟩ = some (.int .i64 q) := pc ⟨W3, hb3⟩
          obtain ⟨b0, o0, g2, hA, _, hc0, hO, _, _, hup⟩ := hRy.at (by decide) hi5
          injection hA with hA
          injection hA with hA1 hA2 _
          subst hA1
          subst hA2
          rw [tabRow_len, Nat.zero_add, ht3] at hc0
          injection hc0 with hc0
          injection hc0 with hc0 _ _
          injection hc0 with hc0
          injection hc0 with hc0 _ _
          subst hc0
          obtain ⟨_, _, hfz⟩ := hO.room (i := j) (by rw [tabRow_len]; omega)
          have HUP := Lib.hid (hup (W3.setCell ⟨g, j, none⟩ (.int .i64 (q + 1))) ((tabRow xs k i).set j (q + 1)) (only_set (World.grownBy.refl _ _) rfl _) (hO.set hjl) (by rw [List.length_set]))
          have htop3 : w1.heap.size + 6 ≤ W3.heap.size := by have := hb3.size; omega
          clear p0 p1 p2 pt pc ht3 hRy hO hup hb3
          go_wp2
          go_roundw
          case rel => exact ⟨k + 1, by omega, by go_num, HUP.out.congr fun m _ => (HST.out m).symm, by simpa using htop3, Bel.setCell hbel3 hg1 _⟩
          case measure => simp [intOf]; omega
        · obtain rfl : k = xs.length := by omega
          go_wp2
          go_ret2
          rw [HR.out]
          refine ⟨⟨_, rfl, ?_⟩, hbel⟩
          have hll : (tabL xs).length = 5 := by simp [tabL]
          rw [hll]
          exact (HRF.out.up htop).congr fun i hi => (tabL_get hi).symm
end Go.Proofs.Ytcjalooaikfkbaa
