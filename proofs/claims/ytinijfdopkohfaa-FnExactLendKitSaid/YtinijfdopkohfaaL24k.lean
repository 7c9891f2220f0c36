/- Chapter 24: how much kit is lacking in sum: the walks. -/
import Derived.Test.YtinijfdopkohfaaL24
import Derived.Test.YtinijfdopkohfaaLst
namespace Go.Proofs.Ytinijfdopkohfaa
set_option linter.unusedSimpArgs false
set_option linter.unusedVariables false
open Go.RowKit
set_option maxHeartbeats 400000
set_option maxRecDepth 100000
def kitV (g o : Nat) : Value := .agg #[.pointer (some ⟨g, o + 3, none⟩), .pointer (some ⟨g, o + 4, none⟩), .pointer (some ⟨g, o + 5, none⟩)]
theorem kit_any (g o : Nat) (w : World) :
    Calls Try.prog 50 #[.pointer (some ⟨g, o, none⟩)] w fun e w' => e = .returned (.agg #[.pointer (some ⟨g, o + 3, none⟩), .pointer (some ⟨g, o + 4, none⟩), .pointer (some ⟨g, o + 5, none⟩)]) ∧ Below w.heap.size w w' := by
  go_enter Try.func50, Try.ntmps50
  go_wp2_with fail
  refine wp_box_out ?_
  intro W hbw B
  refine wp_region_past_tail 10 (by kernel_rfl) (by kernel_rfl) ?_
  simp only [List.take_succ_cons, List.take_zero, List.drop_succ_cons, List.drop_zero]
  repeat (go_big_quiet_step (fail))
  refine wpQuiet_nil ?_
  intro W1 hw'
  obtain ⟨⟨W_, hb1⟩, hw''⟩ := hw'
  subst hw''
  have B := B.below hb1
  have hbw := Bel.trans hbw hb1
  have d0 : W1.cell? ⟨w.heap.size, 0, none⟩ = some (.pointer none) := B.cell 0
  have d1 : W1.cell? ⟨w.heap.size, 1, none⟩ = some (.pointer none) := B.cell 1
  have d2 : W1.cell? ⟨w.heap.size, 2, none⟩ = some (.pointer none) := B.cell 2
  have z0 : W1.frozen? ⟨w.heap.size, 0, none⟩ = false := B.free 0
  have z1 : W1.frozen? ⟨w.heap.size, 1, none⟩ = false := B.free 1
  have z2 : W1.frozen? ⟨w.heap.size, 2, none⟩ = false := B.free 2
  clear B
  go_wp2
  exact bodyPost_ret (v := .agg #[.pointer (some ⟨g, o + 3, none⟩), .pointer (some ⟨g, o + 4, none⟩), .pointer (some ⟨g, o + 5, none⟩)]) (by simp [results, Try.results50, go_sem, d0, d1, d2]) rfl ⟨rfl, (by repeat (first | (with_reducible assumption) | (with_reducible exact Below.refl _ _) | (with_reducible refine Bel.alloc ?_ _) | (with_reducible refine Below.drew ?_) | (with_reducible refine Bel.drewN ?_ _) | (with_reducible refine Bel.setCell ?_ (by (try simp) <;> omega) _) | (with_reducible refine Bel.trans ?_ (by assumption))))⟩
theorem kit0_any (g : Nat) (w : World) :
    Calls Try.prog 50 #[.pointer (some ⟨g, 0, none⟩)] w fun e w' => e = .returned (.agg #[.pointer (some ⟨g, 3, none⟩), .pointer (some ⟨g, 4, none⟩), .pointer (some ⟨g, 5, none⟩)]) ∧ Below w.heap.size w w' := by
  have h := kit_any g 0 w
  simpa only [Nat.zero_add] using h
theorem kitIx_0 (a b c : Value) (w : World) : (Instr.index 74 (.agg #[a, b, c]) (.int .i64 0)).run Try.prog w = .ok a w := by kernel_rfl
theorem kitIx_1 (a b c : Value) (w : World) : (Instr.index 74 (.agg #[a, b, c]) (.int .i64 1)).run Try.prog w = .ok b w := by kernel_rfl
theorem kitIx_2 (a b c : Value) (w : World) : (Instr.index 74 (.agg #[a, b, c]) (.int .i64 2)).run Try.prog w = .ok c w := by kernel_rfl
def beS (x : SGroup) : Int := x.People - x.Beacons
def shS (x : SGroup) : Int := x.People - x.Shovels
def prS (x : SGroup) : Int := x.People - x.Probes
def ksRes (xs : List SGroup) : Int × Int := if vlGroup xs then (max (sumL beS xs xs.length) 0 + max (sumL shS xs xs.length) 0 + max (sumL prS xs xs.length) 0, 0) else (0, 1)
theorem ksRes_1 {xs : List SGroup} (h : vlGroup xs = false) : ksRes xs = (0, 1) := by rw [ksRes, if_neg (by rw [h]; simp)]
theorem ksRes_0 {xs : List SGroup} {a b c : Int} (h : vlGroup xs = true) (ha : sumL beS xs xs.length = a) (hb : sumL shS xs xs.length = b) (hc : sumL prS xs xs.length = c) : ksRes xs = (max a 0 + max b 0 + max c 0, 0) := by rw [ksRes, if_pos h, ha, hb, hc]
theorem sumL_bd2 {α : Type} {f : α → Int} {xs : List α} {M : Int} (hM : 0 ≤ M) (h : ∀ i (hi : i < xs.length), -M ≤ f xs[i] ∧ f xs[i] ≤ M) (k : Nat) : -(M * k) ≤ sumL f xs k ∧ sumL f xs k ≤ M * k := by
  induction k with
  | zero => simp [sumL]
  | succ k ih =>
    have e : M * ((k + 1 : Nat) : Int) = M * (k : Int) + M := by rw [Int.natCast_succ, Int.mul_add, Int.mul_one]
    simp only [sumL]
    split
    · rename_i hk
      have := h k hk
      omega
    · omega
theorem ks_bd {xs : List SGroup} (h : vlGroup xs = true) (k : Nat) : (-(30 * (k : Int)) ≤ sumL beS xs k ∧ sumL beS xs k ≤ 30 * k) ∧ (-(30 * (k : Int)) ≤ sumL shS xs k ∧ sumL shS xs k ≤ 30 * k) ∧ (-(30 * (k : Int)) ≤ sumL prS xs k ∧ sumL prS xs k ≤ 30 * k) := by
  refine ⟨sumL_bd2 (by omega) (fun i hi => ?_) k, sumL_bd2 (by omega) (fun i hi => ?_) k, sumL_bd2 (by omega) (fun i hi => ?_) k⟩
  all_goals
    have := okGroup_bd (vlGroup_ok h i hi)
    simp only [beS, shS, prS]
    omega
theorem sKitShort_any (xs : List SGroup) (b c : Nat) (w : World) (A : Arr SGroup.cells 7 w b xs) (hn : xs.length ≤ 1048576) (hf : ∀ i (h : i < xs.length), xs[i].Id.size ≤ 9223372036854775807) :
    Calls Try.prog 12 #[.slice (some ⟨b, 0, none⟩) xs.length c] w fun e w' => e = .returned (.tuple #[.int .i64 (ksRes xs).1, .int .i64 (ksRes xs).2]) ∧ Below w.heap.size w w' := by
  have HA := Lib.hid A
  clear A
  go_enter Try.func12, Try.ntmps12
  go_wp2_with (go_at_call 47; refine (l24Ok_any xs b c _ HA.out hn hf).mono ?_; rintro e w1 ⟨rfl, hb1⟩)
  all_goals try (go_ret2; rw [ksRes_1 (by first | assumption | exact not_f (by assumption) | exact not_t (by assumption))]; exact ⟨rfl, hb1⟩)
  have hv : vlGroup xs = true := (by first | assumption | exact not_f (by assumption) | exact not_t (by assumption))
  have hlen := vlGroup_len hv
  simp only [hv, Bool.not_true]
  have HV := Lib.hid hv
  clear hv
  go_loopw [4, 5, 6, 7] (fun p q r i wr => ∃ (k : Nat) (s1 s2 s3 : Int), k ≤ xs.length ∧ i = .int .i64 k ∧ p = .int .i64 s1 ∧ q = .int .i64 s2 ∧ r = .int .i64 s3 ∧ sumL beS xs k = s1 ∧ sumL shS xs k = s2 ∧ sumL prS xs k = s3 ∧ Below w.heap.size w wr) (fun _ _ _ i wr => xs.length - (intOf i).toNat)
  case atStart => exact ⟨0, 0, 0, 0, by omega, rfl, rfl, rfl, rfl, rfl, rfl, rfl, hb1⟩
  case round =>
    obtain ⟨k, s1, s2, s3, hk, rfl, rfl, rfl, rfl, h1, h2, h3, hbel⟩ := hrel
    have hbd := ks_bd HV.out k
    rw [h1, h2, h3] at hbd
    have H1 := Lib.hid h1
    have H2 := Lib.hid h2
    have H3 := Lib.hid h3
    clear h1 h2 h3
    by_cases hlt : k < xs.length
    · have hgb := okGroup_bd (vlGroup_ok HV.out k hlt)
      obtain ⟨p0, p1, p2, p3, p4, p5, p6⟩ := SGroup.elems (HA.out.below hbel) hlt
      have w1_ := IntWalk.i64_in (xs[k].People - xs[k].Beacons) (by omega)
      have w2_ := IntWalk.i64_in (s1 + (xs[k].People - xs[k].Beacons)) (by omega)
      have w3_ := IntWalk.i64_in (xs[k].People - xs[k].Shovels) (by omega)
      have w4_ := IntWalk.i64_in (s2 + (xs[k].People - xs[k].Shovels)) (by omega)
      have w5_ := IntWalk.i64_in (xs[k].People - xs[k].Probes) (by omega)
      have w6_ := IntWalk.i64_in (s3 + (xs[k].People - xs[k].Probes)) (by omega)
      go_wp2_with fail
      refine wp_region_past (by kernel_rfl) (by kernel_rfl) ?_
      repeat (go_big_quiet_step (fail))
      refine wpQuiet_nil ?_
      intro W1 hw'
      obtain ⟨⟨W_, hbx⟩, hw''⟩ := hw'
      subst hw''
      have hbel := Bel.trans hbel hbx
      clear p0 p1 p2 p3 p4 p5 p6
      obtain ⟨p0, p1, p2, p3, p4, p5, p6⟩ := SGroup.elems (HA.out.below hbel) hlt
      go_wp2_with fail
      refine wp_region_past (by kernel_rfl) (by kernel_rfl) ?_
      repeat (go_big_quiet_step (fail))
      refine wpQuiet_nil ?_
      intro W2 hw'
      obtain ⟨⟨W_, hby⟩, hw''⟩ := hw'
      subst hw''
      have hbel := Bel.trans hbel hby
      clear p0 p1 p2 p3 p4 p5 p6
      obtain ⟨p0, p1, p2, p3, p4, p5, p6⟩ := SGroup.elems (HA.out.below hbel) hlt
      go_wp2_with fail
      refine wp_region_past (by kernel_rfl) (by kernel_rfl) ?_
      repeat (go_big_quiet_step (fail))
      refine wpQuiet_nil ?_
      intro W3 hw'
      obtain ⟨⟨W_, hbz⟩, hw''⟩ := hw'
      subst hw''
      have hbel := Bel.trans hbel hbz
      clear p0 p1 p2 p3 p4 p5 p6 w1_ w2_ w3_ w4_ w5_ w6_
      go_wp2
      go_roundw
      case rel => exact ⟨k + 1, _, _, _, by omega, by go_num, rfl, rfl, rfl, by rw [sumL_at hlt, H1.out]; rfl, by rw [sumL_at hlt, H2.out]; rfl, by rw [sumL_at hlt, H3.out]; rfl, hbel⟩
      case measure => simp [intOf]; omega
    · obtain rfl : k = xs.length := by omega
      go_wp2_with (go_at_call 48; refine (l00Max_any _ _ _).mono ?_; rintro e w' ⟨rfl, rfl⟩)
      go_ret2
      rw [ksRes_0 HV.out H1.out H2.out H3.out]
      exact ⟨ret_int2 (by omega) rfl, hbel⟩
def ksA (s1 s2 s3 : Int) (x : SGroup) (q : Nat) : Array Value := #[.int .i64 (if 0 < q then s1 + (x.People - x.Beacons) else s1), .int .i64 (if 1 < q then s2 + (x.People - x.Shovels) else s2), .int .i64 (if 2 < q then s3 + (x.People - x.Probes) else s3)]
theorem KitShort_any (xs : List SGroup) (b c : Nat) (w : World) (A : Arr SGroup.cells 7 w b xs) (hn : xs.length ≤ 1048576) (hf : ∀ i (h : i < xs.length), xs[i].Id.size ≤ 9223372036854775807) :
    Calls Try.prog 14 #[.slice (some ⟨b, 0, none⟩) xs.length c] w fun e w' => e = .returned (.tuple #[.int .i64 (ksRes xs).1, .int .i64 (ksRes xs).2]) ∧ Below w.heap.size w w' := by
  have HA := Lib.hid A
  clear A
  go_enter Try.func14, Try.ntmps14
  go_wp2_with (go_at_call 49; refine (ValidGroups_any xs b c _ HA.out hn hf).mono ?_; rintro e w1 ⟨rfl, hb1⟩)
  all_goals try (go_ret2; rw [ksRes_1 (by first | assumption | exact not_f (by assumption) | exact not_t (by assumption))]; exact ⟨rfl, hb1⟩)
  have hv : vlGroup xs = true := (by first | assumption | exact not_f (by assumption) | exact not_t (by assumption))
  have hlen := vlGroup_len hv
  simp only [hv, Bool.not_true]
  have HV := Lib.hid hv
  clear hv
  have hs1 := hb1.size
  go_loopw [14] (fun i wo => ∃ (k : Nat) (s1 s2 s3 : Int), k ≤ xs.length ∧ i = .int .i64 k ∧ Box 72 wo w1.heap.size #[.int .i64 s1, .int .i64 s2, .int .i64 s3] ∧ sumL beS xs k = s1 ∧ sumL shS xs k = s2 ∧ sumL prS xs k = s3 ∧ Below w.heap.size w wo) (fun i wr => xs.length - (intOf i).toNat)
  case atStart => exact ⟨0, 0, 0, 0, by omega, rfl, Box.new _ _ _, rfl, rfl, rfl, Bel.alloc hb1 _⟩
  case round =>
    obtain ⟨k, s1, s2, s3, hk, rfl, BS, h1, h2, h3, hbel⟩ := hrel
    have hbd := ks_bd HV.out k
    rw [h1, h2, h3] at hbd
    have H1 := Lib.hid h1
    have H2 := Lib.hid h2
    have H3 := Lib.hid h3
    clear h1 h2 h3
    rename World => wo
    by_cases hlt : k < xs.length
    · have hgb := okGroup_bd (vlGroup_ok HV.out k hlt)
      obtain ⟨e0, e1, e2, e3, e4, e5, e6⟩ := SGroup.elem (HA.out.below hbel) hlt
      have HBS := Lib.hid BS
      have hgl := BS.lt
      clear BS
      go_wp2_with fail
      refine calls_box_out ?_
      intro W hbw BX
      refine (kit0_any _ _).mono ?_
      rintro e w2 ⟨rfl, hb2⟩
      have hbel := Bel.trans hbel (Bel.trans hbw hb2)
      have HBS := Lib.hid ((HBS.out.below hbw).below hb2)
      have HBX := Lib.hid (BX.below hb2)
      have hwo := hbel.size
      clear e0 e1 e2 e3 e4 e5 e6 BX
      have w1_ := IntWalk.i64_in (xs[k].People - xs[k].Beacons) (by omega)
      have w2_ := IntWalk.i64_in (s1 + (xs[k].People - xs[k].Beacons)) (by omega)
      have w3_ := IntWalk.i64_in (xs[k].People - xs[k].Shovels) (by omega)
      have w4_ := IntWalk.i64_in (s2 + (xs[k].People - xs[k].Shovels)) (by omega)
      have w5_ := IntWalk.i64_in (xs[k].People - xs[k].Probes) (by omega)
      have w6_ := IntWalk.i64_in (s3 + (xs[k].People - xs[k].Probes)) (by omega)
      go_wp2_with fail
      go_loopw [19] (fun i wr => ∃ q : Nat, q ≤ 3 ∧ i = .int .i64 q ∧ Box 72 wr w1.heap.size (ksA s1 s2 s3 xs[k] q) ∧ Box 35 wr wo.heap.size #[.string xs[k].Id, .int .i64 xs[k].People, .int .i64 xs[k].Guides, .int .i64 xs[k].Beacons, .int .i64 xs[k].Shovels, .int .i64 xs[k].Probes, .int .i64 xs[k].Skill] ∧ Below w.heap.size w wr) (fun i wr => 3 - (intOf i).toNat)
      case atStart => exact ⟨0, by omega, rfl, HBS.out, HBX.out, hbel⟩
      case round =>
        obtain ⟨q, hq, rfl, BQ, BX, hbr⟩ := hrel
        clear HBS HBX
        rcases (show q = 0 ∨ q = 1 ∨ q = 2 ∨ q = 3 by omega) with rfl | rfl | rfl | rfl
        · skip
          have BQ : Box 72 wr w1.heap.size #[.int .i64 (s1), .int .i64 (s2), .int .i64 (s3)] := BQ
          have p0 := Past.box BX (j := 0) (v := .string xs[k].Id) rfl
          have p1 := Past.box BX (j := 1) (v := .int .i64 xs[k].People) rfl
          have p2 := Past.box BX (j := 2) (v := .int .i64 xs[k].Guides) rfl
          have p3 := Past.box BX (j := 3) (v := .int .i64 xs[k].Beacons) rfl
          have p4 := Past.box BX (j := 4) (v := .int .i64 xs[k].Shovels) rfl
          have p5 := Past.box BX (j := 5) (v := .int .i64 xs[k].Probes) rfl
          have p6 := Past.box BX (j := 6) (v := .int .i64 xs[k].Skill) rfl
          have q0 := Past.box BQ (j := 0) (v := .int .i64 (s1)) rfl
          have q1 := Past.box BQ (j := 1) (v := .int .i64 (s2)) rfl
          have q2 := Past.box BQ (j := 2) (v := .int .i64 (s3)) rfl
          have HBQ := Lib.hid BQ
          have HBX := Lib.hid BX
          clear BQ BX
          go_wp2
          rw [kitIx_0]
          go_wp2_with fail
          refine wp_region_past_tail 11 (by kernel_rfl) (by kernel_rfl) ?_
          simp only [List.take_succ_cons, List.take_zero, List.drop_succ_cons, List.drop_zero]
          repeat (go_big_quiet_step (fail))
          refine wpQuiet_nil ?_
          intro W3 hw'
          obtain ⟨⟨W_, hb3⟩, hw''⟩ := hw'
          subst hw''
          have BQ := HBQ.out.below hb3
          have HBX := Lib.hid (HBX.out.below hb3)
          have HBQ := Lib.hid BQ
          have y0 : W3.cell? ⟨w1.heap.size, 0, none⟩ = some (.int .i64 (s1)) := BQ.cell 0
          have y1 : W3.cell? ⟨w1.heap.size, 1, none⟩ = some (.int .i64 (s2)) := BQ.cell 1
          have y2 : W3.cell? ⟨w1.heap.size, 2, none⟩ = some (.int .i64 (s3)) := BQ.cell 2
          have z0 : W3.frozen? ⟨w1.heap.size, 0, none⟩ = false := BQ.free 0
          have z1 : W3.frozen? ⟨w1.heap.size, 1, none⟩ = false := BQ.free 1
          have z2 : W3.frozen? ⟨w1.heap.size, 2, none⟩ = false := BQ.free 2
          have hbr := Bel.trans hbr hb3
          clear p0 p1 p2 p3 p4 p5 p6 q0 q1 q2 BQ hb3
          go_wp2
          go_roundw
          case rel => exact ⟨1, by omega, by go_num, HBQ.out.set 0 _, HBX.out.far (by show wo.heap.size ≠ w1.heap.size; omega) _, Bel.setCell hbr hs1 _⟩
          case measure => simp [intOf]
        · skip
          have BQ : Box 72 wr w1.heap.size #[.int .i64 (s1 + (xs[k].People - xs[k].Beacons)), .int .i64 (s2), .int .i64 (s3)] := BQ
          have p0 := Past.box BX (j := 0) (v := .string xs[k].Id) rfl
          have p1 := Past.box BX (j := 1) (v := .int .i64 xs[k].People) rfl
          have p2 := Past.box BX (j := 2) (v := .int .i64 xs[k].Guides) rfl
          have p3 := Past.box BX (j := 3) (v := .int .i64 xs[k].Beacons) rfl
          have p4 := Past.box BX (j := 4) (v := .int .i64 xs[k].Shovels) rfl
          have p5 := Past.box BX (j := 5) (v := .int .i64 xs[k].Probes) rfl
          have p6 := Past.box BX (j := 6) (v := .int .i64 xs[k].Skill) rfl
          have q0 := Past.box BQ (j := 0) (v := .int .i64 (s1 + (xs[k].People - xs[k].Beacons))) rfl
          have q1 := Past.box BQ (j := 1) (v := .int .i64 (s2)) rfl
          have q2 := Past.box BQ (j := 2) (v := .int .i64 (s3)) rfl
          have HBQ := Lib.hid BQ
          have HBX := Lib.hid BX
          clear BQ BX
          go_wp2
          rw [kitIx_1]
          go_wp2_with fail
          refine wp_region_past_tail 11 (by kernel_rfl) (by kernel_rfl) ?_
          simp only [List.take_succ_cons, List.take_zero, List.drop_succ_cons, List.drop_zero]
          repeat (go_big_quiet_step (fail))
          refine wpQuiet_nil ?_
          intro W3 hw'
          obtain ⟨⟨W_, hb3⟩, hw''⟩ := hw'
          subst hw''
          have BQ := HBQ.out.below hb3
          have HBX := Lib.hid (HBX.out.below hb3)
          have HBQ := Lib.hid BQ
          have y0 : W3.cell? ⟨w1.heap.size, 0, none⟩ = some (.int .i64 (s1 + (xs[k].People - xs[k].Beacons))) := BQ.cell 0
          have y1 : W3.cell? ⟨w1.heap.size, 1, none⟩ = some (.int .i64 (s2)) := BQ.cell 1
          have y2 : W3.cell? ⟨w1.heap.size, 2, none⟩ = some (.int .i64 (s3)) := BQ.cell 2
          have z0 : W3.frozen? ⟨w1.heap.size, 0, none⟩ = false := BQ.free 0
          have z1 : W3.frozen? ⟨w1.heap.size, 1, none⟩ = false := BQ.free 1
          have z2 : W3.frozen? ⟨w1.heap.size, 2, none⟩ = false := BQ.free 2
          have hbr := Bel.trans hbr hb3
          clear p0 p1 p2 p3 p4 p5 p6 q0 q1 q2 BQ hb3
          go_wp2
          go_roundw
          case rel => exact ⟨2, by omega, by go_num, HBQ.out.set 1 _, HBX.out.far (by show wo.heap.size ≠ w1.heap.size; omega) _, Bel.setCell hbr hs1 _⟩
          case measure => simp [intOf]
        · skip
          have BQ : Box 72 wr w1.heap.size #[.int .i64 (s1 + (xs[k].People - xs[k].Beacons)), .int .i64 (s2 + (xs[k].People - xs[k].Shovels)), .int .i64 (s3)] := BQ
          have p0 := Past.box BX (j := 0) (v := .string xs[k].Id) rfl
          have p1 := Past.box BX (j := 1) (v := .int .i64 xs[k].People) rfl
          have p2 := Past.box BX (j := 2) (v := .int .i64 xs[k].Guides) rfl
          have p3 := Past.box BX (j := 3) (v := .int .i64 xs[k].Beacons) rfl
          have p4 := Past.box BX (j := 4) (v := .int .i64 xs[k].Shovels) rfl
          have p5 := Past.box BX (j := 5) (v := .int .i64 xs[k].Probes) rfl
          have p6 := Past.box BX (j := 6) (v := .int .i64 xs[k].Skill) rfl
          have q0 := Past.box BQ (j := 0) (v := .int .i64 (s1 + (xs[k].People - xs[k].Beacons))) rfl
          have q1 := Past.box BQ (j := 1) (v := .int .i64 (s2 + (xs[k].People - xs[k].Shovels))) rfl
          have q2 := Past.box BQ (j := 2) (v := .int .i64 (s3)) rfl
          have HBQ := Lib.hid BQ
          have HBX := Lib.hid BX
          clear BQ BX
          go_wp2
          rw [kitIx_2]
          go_wp2_with fail
          refine wp_region_past_tail 11 (by kernel_rfl) (by kernel_rfl) ?_
          simp only [List.take_succ_cons, List.take_zero, List.drop_succ_cons, List.drop_zero]
          repeat (go_big_quiet_step (fail))
          refine wpQuiet_nil ?_
          intro W3 hw'
          obtain ⟨⟨W_, hb3⟩, hw''⟩ := hw'
          subst hw''
          have BQ := HBQ.out.below hb3
          have HBX := Lib.hid (HBX.out.below hb3)
          have HBQ := Lib.hid BQ
          have y0 : W3.cell? ⟨w1.heap.size, 0, none⟩ = some (.int .i64 (s1 + (xs[k].People - xs[k].Beacons))) := BQ.cell 0
          have y1 : W3.cell? ⟨w1.heap.size, 1, none⟩ = some (.int .i64 (s2 + (xs[k].People - xs[k].Shovels))) := BQ.cell 1
          have y2 : W3.cell? ⟨w1.heap.size, 2, none⟩ = some (.int .i64 (s3)) := BQ.cell 2
          have z0 : W3.frozen? ⟨w1.heap.size, 0, none⟩ = false := BQ.free 0
          have z1 : W3.frozen? ⟨w1.heap.size, 1, none⟩ = false := BQ.free 1
          have z2 : W3.frozen? ⟨w1.heap.size, 2, none⟩ = false := BQ.free 2
          have hbr := Bel.trans hbr hb3
          clear p0 p1 p2 p3 p4 p5 p6 q0 q1 q2 BQ hb3
          go_wp2
          go_roundw
          case rel => exact ⟨3, by omega, by go_num, HBQ.out.set 2 _, HBX.out.far (by show wo.heap.size ≠ w1.heap.size; omega) _, Bel.setCell hbr hs1 _⟩
          case measure => simp [intOf]
        · have HBQ := Lib.hid (show Box 72 wr w1.heap.size #[.int .i64 (s1 + (xs[k].People - xs[k].Beacons)), .int .i64 (s2 + (xs[k].People - xs[k].Shovels)), .int .i64 (s3 + (xs[k].People - xs[k].Probes))] from BQ)
          clear BQ BX w1_ w2_ w3_ w4_ w5_ w6_
          go_wp2
          go_roundw
          case rel => exact ⟨k + 1, _, _, _, by omega, by go_num, HBQ.out, by rw [sumL_at hlt, H1.out]; rfl, by rw [sumL_at hlt, H2.out]; rfl, by rw [sumL_at hlt, H3.out]; rfl, hbr⟩
          case measure => simp [intOf]; omega
    · obtain rfl : k = xs.length := by omega
      have y0 : wo.cell? ⟨w1.heap.size, 0, none⟩ = some (.int .i64 s1) := BS.cell 0
      have y1 : wo.cell? ⟨w1.heap.size, 1, none⟩ = some (.int .i64 s2) := BS.cell 1
      have y2 : wo.cell? ⟨w1.heap.size, 2, none⟩ = some (.int .i64 s3) := BS.cell 2
      have z0 : wo.frozen? ⟨w1.heap.size, 0, none⟩ = false := BS.free 0
      have z1 : wo.frozen? ⟨w1.heap.size, 1, none⟩ = false := BS.free 1
      have z2 : wo.frozen? ⟨w1.heap.size, 2, none⟩ = false := BS.free 2
      clear BS
      go_wp2
      all_goals
        go_ret2
        rw [ksRes_0 HV.out H1.out H2.out H3.out]
        exact ⟨ret_int2 (by omega) rfl, hbel⟩
end Go.Proofs.Ytinijfdopkohfaa
