/- Chapter 8: tests that contradict each other: the walks. -/
import Derived.Test.YtlicpgmcnebpmaaL08b
import Derived.Test.YtlicpgmcnebpmaaLTIntSS
import Derived.Test.YtlicpgmcnebpmaaRowSB
namespace Go.Proofs.Ytlicpgmcnebpmaa
set_option linter.unusedSimpArgs false
set_option linter.unusedVariables false
open Go.RowKit
set_option maxHeartbeats 400000
set_option maxRecDepth 100000
theorem cin_yes {near : Int} {xs : List STest} {i j : Nat} (hij : i + 1 ≤ j) (h : qCon near xs i j = true) : conIn near xs i (j + 1 - (i + 1)) = conIn near xs i (j - (i + 1)) ++ [[(i : Int), (j : Int)]] := by
  obtain ⟨m, rfl⟩ := Nat.exists_eq_add_of_le hij
  rw [show i + 1 + m + 1 - (i + 1) = m + 1 by omega, show i + 1 + m - (i + 1) = m by omega, conIn_yes h]
theorem cin_no {near : Int} {xs : List STest} {i j : Nat} (hij : i + 1 ≤ j) (h : qCon near xs i j = false) : conIn near xs i (j + 1 - (i + 1)) = conIn near xs i (j - (i + 1)) := by
  obtain ⟨m, rfl⟩ := Nat.exists_eq_add_of_le hij
  rw [show i + 1 + m + 1 - (i + 1) = m + 1 by omega, show i + 1 + m - (i + 1) = m by omega, conIn_no h]
/-- all pairs up to i, j -/
def conAt (near : Int) (xs : List STest) (i j : Nat) : List (List Int) := conTo near xs i ++ conIn near xs i (j - (i + 1))
theorem conAt_0 (near : Int) (xs : List STest) (i : Nat) : conAt near xs i (i + 1) = conTo near xs i := by rw [conAt, Nat.sub_self, conIn, List.append_nil]
theorem conAt_end (near : Int) (xs : List STest) (i : Nat) : conAt near xs i xs.length = conTo near xs (i + 1) := rfl
theorem conAt_yes {near : Int} {xs : List STest} {i j : Nat} (hij : i + 1 ≤ j) (h : qCon near xs i j = true) : conAt near xs i (j + 1) = conAt near xs i j ++ [[(i : Int), (j : Int)]] := by rw [conAt, cin_yes hij h, ← List.append_assoc, conAt]
theorem conAt_no {near : Int} {xs : List STest} {i j : Nat} (hij : i + 1 ≤ j) (h : qCon near xs i j = false) : conAt near xs i (j + 1) = conAt near xs i j := by rw [conAt, cin_no hij h, conAt]
theorem conAt_len {near : Int} {xs : List STest} {i j : Nat} (h : xs.length ≤ 16) (hi : i < xs.length) (hj : j ≤ xs.length) : (conAt near xs i j).length ≤ 272 := by
  have h1 := conTo_len near xs i h
  have h2 := conIn_len near xs i (j - (i + 1))
  rw [conAt, List.length_append]; omega
theorem ctRes_1 {xs : List STest} {near : Int} (h : vlTest xs = false) : ctRes xs near = ([], 1) := by rw [ctRes, if_neg (by rw [h]; simp)]
theorem ctRes_2 {xs : List STest} {near : Int} (h : vlTest xs = true) (h2 : inr 0 300 near = false) : ctRes xs near = ([], 2) := by rw [ctRes, if_pos h, if_neg (by rw [h2]; simp)]
theorem tneT : (48 : TypeId) ≠ 39 := by decide
theorem ContradictTests_any (xs : List STest) (b c : Nat) (near : Int) (w : World) (A : Arr STest.cells 5 w b xs) (hn : xs.length ≤ 1048576) :
    Calls Try.prog 14 #[.slice (some ⟨b, 0, none⟩) xs.length c, .int .i64 near] w
    fun e w' => (∃ v, e = .returned (.tuple #[v, .int .i64 (ctRes xs near).2]) ∧ RowF 39 2 w' w.heap.size w'.heap.size v (ctRes xs near).1.length (getF (ctRes xs near).1)) ∧ Below w.heap.size w w' := by
  have HA := Lib.hid A
  clear A
  go_enter Try.func14, Try.ntmps14
  go_wp2_with (first | (go_at_call 33; refine (ValidTests_any xs b c _ HA.out hn).mono ?_; rintro e w1 ⟨rfl, hb1⟩) | (go_at_call 40; refine (nearOk_any _ _).mono ?_; rintro e w' ⟨rfl, rfl⟩))
  all_goals try (go_ret2; first | (rw [ctRes_1 (by first | assumption | exact not_f (by assumption) | exact not_t (by assumption))]; exact ⟨⟨_, rfl, RowF.nil⟩, (by repeat (first | (with_reducible assumption) | (with_reducible exact Below.refl _ _) | (with_reducible refine Bel.alloc ?_ _) | (with_reducible refine Below.drew ?_) | (with_reducible refine Bel.drewN ?_ _) | (with_reducible refine Bel.setCell ?_ (by (try simp) <;> omega) _) | (with_reducible refine Bel.trans ?_ (by assumption))))⟩) | (rw [ctRes_2 (by first | assumption | exact not_f (by assumption) | exact not_t (by assumption)) (by first | assumption | exact not_f (by assumption) | exact not_t (by assumption))]; exact ⟨⟨_, rfl, RowF.nil⟩, (by repeat (first | (with_reducible assumption) | (with_reducible exact Below.refl _ _) | (with_reducible refine Bel.alloc ?_ _) | (with_reducible refine Below.drew ?_) | (with_reducible refine Bel.drewN ?_ _) | (with_reducible refine Bel.setCell ?_ (by (try simp) <;> omega) _) | (with_reducible refine Bel.trans ?_ (by assumption))))⟩))
  have hv : vlTest xs = true := (by first | assumption | exact not_f (by assumption) | exact not_t (by assumption))
  have hh : inr 0 300 near = true := (by first | assumption | exact not_f (by assumption) | exact not_t (by assumption))
  have hlen := vlTest_len hv
  obtain ⟨hn0, hn1⟩ := inr_bd' hh
  simp only [hv, hh, Bool.not_true]
  have HV := Lib.hid hv
  have HH := Lib.hid hh
  clear hv hh
  go_loopw [6, 21] (fun v i wr => ∃ i' : Nat, i' ≤ xs.length ∧ i = .int .i64 i' ∧ RowF 39 2 wr w.heap.size wr.heap.size v (conTo near xs i').length (getF (conTo near xs i')) ∧ Below w.heap.size w wr) (fun _ i wr => xs.length - (intOf i).toNat)
  case atStart => exact ⟨0, by omega, rfl, RowF.nil, hb1⟩
  case round =>
    obtain ⟨i, hi, rfl, hrow, hbel⟩ := hrel
    have HR := Lib.hid hrow
    clear hrow
    by_cases hlt : i < xs.length
    · obtain ⟨wo, rfl⟩ : ∃ wo : World, wo = wr := ⟨_, rfl⟩
      obtain ⟨e0, e1, e2, e3, e4⟩ := STest.elem (HA.out.below hbel) hlt
      go_wp2_with fail
      refine wp_box_out ?_
      intro W hbw BX
      have hbw2 := Bel.trans hbel hbw
      have HR := Lib.hid ((HR.out.below hbw).up hbw.size)
      have HBX := Lib.hid BX
      have hgx := BX.lt
      have hbo : w.heap.size ≤ W.heap.size := hbw2.size
      obtain ⟨gx, hgxe⟩ : ∃ gx, wo.heap.size = gx := ⟨_, rfl⟩
      rw [hgxe] at HBX hgx
      rw [hgxe]
      clear e0 e1 e2 e3 e4 BX hbw hgxe
      go_loopw [6, 9] (fun v j wr => ∃ j' : Nat, i + 1 ≤ j' ∧ j' ≤ xs.length ∧ j = .int .i64 j' ∧ RowF 39 2 wr w.heap.size wr.heap.size v (conAt near xs i j').length (getF (conAt near xs i j')) ∧ Box 48 wr gx #[.int .i64 xs[i].Kind, .int .i64 xs[i].Score, .int .i64 xs[i].Quality, .int .i64 xs[i].Depth, .int .i64 xs[i].Hour] ∧ Below w.heap.size w wr) (fun _ j wr => xs.length - (intOf j).toNat)
      case atStart => exact ⟨i + 1, by omega, by omega, by go_num, by rw [conAt_0]; exact HR.out, HBX.out, hbw2⟩
      case round =>
        clear HR HBX hgx hbo
        obtain ⟨j, hij, hj, rfl, hrow, hbox, hbi⟩ := hrel
        have HR := Lib.hid hrow
        have HBX := Lib.hid hbox
        clear hrow hbox
        have hcl := conAt_len (near := near) hlen hlt hj
        by_cases hjt : j < xs.length
        · obtain ⟨e0, e1, e2, e3, e4⟩ := STest.elem (HA.out.below hbi) hjt
          obtain ⟨cx, hcx⟩ : ∃ cx, cls xs[i] = cx := ⟨_, rfl⟩
          obtain ⟨cy, hcy⟩ : ∃ cy, cls xs[j] = cy := ⟨_, rfl⟩
          have hbx := cls_bd xs[i]
          have hby := cls_bd xs[j]
          rw [hcx] at hbx
          rw [hcy] at hby
          have HCX := Lib.hid hcx
          have HCY := Lib.hid hcy
          have HOX := Lib.hid (vlTest_ok HV.out i hlt)
          have HOY := Lib.hid (vlTest_ok HV.out j hjt)
          have hdx := okTest_bd HOX.out
          have hdy := okTest_bd HOY.out
          clear hcx hcy
          go_wp2_with fail
          refine wp_box_out ?_
          intro W2 hb2 BY
          have HR := Lib.hid ((HR.out.below hb2).up hb2.size)
          have HBX := Lib.hid (HBX.out.below hb2)
          have hbi := Bel.trans hbi hb2
          have BXX := HBX.out
          have p0 := Past.box BXX (j := 0) (v := .int .i64 xs[i].Kind) rfl
          have p1 := Past.box BXX (j := 1) (v := .int .i64 xs[i].Score) rfl
          have p2 := Past.box BXX (j := 2) (v := .int .i64 xs[i].Quality) rfl
          have p3 := Past.box BXX (j := 3) (v := .int .i64 xs[i].Depth) rfl
          have p4 := Past.box BXX (j := 4) (v := .int .i64 xs[i].Hour) rfl
          have q0 := Past.box BY (j := 0) (v := .int .i64 xs[j].Kind) rfl
          have q1 := Past.box BY (j := 1) (v := .int .i64 xs[j].Score) rfl
          have q2 := Past.box BY (j := 2) (v := .int .i64 xs[j].Quality) rfl
          have q3 := Past.box BY (j := 3) (v := .int .i64 xs[j].Depth) rfl
          have q4 := Past.box BY (j := 4) (v := .int .i64 xs[j].Hour) rfl
          clear e0 e1 e2 e3 e4 hb2 BXX BY
          have hcx : Hid (∀ y : Past W2, Calls Try.prog 34 #[.agg #[.int .i64 xs[i].Kind, .int .i64 xs[i].Score, .int .i64 xs[i].Quality, .int .i64 xs[i].Depth, .int .i64 xs[i].Hour]] y.w fun e w' => e = .returned (.int .i64 cx) ∧ Below y.w.heap.size y.w w') := fun y => Calls.intIs HCX.out (class_any xs[i] _ HOX.out)
          have hcy : Hid (∀ y : Past W2, Calls Try.prog 34 #[.agg #[.int .i64 xs[j].Kind, .int .i64 xs[j].Score, .int .i64 xs[j].Quality, .int .i64 xs[j].Depth, .int .i64 xs[j].Hour]] y.w fun e w' => e = .returned (.int .i64 cy) ∧ Below y.w.heap.size y.w w') := fun y => Calls.intIs HCY.out (class_any xs[j] _ HOY.out)
          have hqc := qCon_at (near := near) hlt hjt
          rw [HCX.out, HCY.out] at hqc
          by_cases hA : max (xs[i].Depth - xs[j].Depth) (-(xs[i].Depth - xs[j].Depth)) ≤ near
          · have hz : decide (max (xs[i].Depth - xs[j].Depth) (-(xs[i].Depth - xs[j].Depth)) ≤ near) = true := decide_eq_true hA
            by_cases hB : 2 ≤ max (cx - cy) (-(cx - cy))
            · have HQ := Lib.hid (show qCon near xs i j = true by rw [hqc, hz, decide_eq_true hB]; rfl)
              clear hqc hA
              have HN := Lib.hid (conAt_yes (near := near) hij HQ.out)
              refine wp_region_past (by kernel_rfl) (by kernel_rfl) ?_
              repeat (go_big_quiet_step ((first | (go_at_call 41; exact Past.same _ (abs_any _ _ (by omega) (by omega))) | (go_at_call 34; first | (with_reducible exact Past.call _ (hcx.out _)) | (with_reducible exact Past.call _ (hcy.out _))))))
              refine wpQuiet_nil ?_
              intro W3 hw'
              obtain ⟨⟨W_, hb3⟩, hw''⟩ := hw'
              subst hw''
              have HRR := Lib.hid ((HR.out.below hb3).up hb3.size)
              have HBX := Lib.hid (HBX.out.below hb3)
              have hbi := Bel.trans hbi hb3
              have hsz := hbi.size
              clear p0 p1 p2 p3 p4 q0 q1 q2 q3 q4
              go_wp2_with (at_builtin; refine wpList_pushLB rfl _ _ 30 rfl w.heap.size 39 2 Try.underlying30 (by kernel_rfl) u6 (conAt near xs i j) [(i : Int), (j : Int)] #[.int .i64 (i : Int), .int .i64 (j : Int)] rfl (fun n hn => (by rcases (show n = 0 ∨ n = 1 by (simp at hn; omega)) with rfl | rfl <;> rfl)) rfl HRR.out 1 rfl (by omega) hsz tneSS ?_; intro v' w4 hr4 hb4 hbx4)
              go_roundw
              case rel => exact ⟨j + 1, by omega, by omega, by go_num, by rw [HN.out]; exact hr4, hbx4 _ _ _ tneT HBX.out, hbi.trans hb4⟩
              case measure => simp [intOf]; omega
            · have HQ := Lib.hid (show qCon near xs i j = false by rw [hqc, hz, decide_eq_false hB]; rfl)
              clear hqc hA
              have HN := Lib.hid (conAt_no (near := near) hij HQ.out)
              refine wp_region_past (by kernel_rfl) (by kernel_rfl) ?_
              repeat (go_big_quiet_step ((first | (go_at_call 41; exact Past.same _ (abs_any _ _ (by omega) (by omega))) | (go_at_call 34; first | (with_reducible exact Past.call _ (hcx.out _)) | (with_reducible exact Past.call _ (hcy.out _))))))
              refine wpQuiet_nil ?_
              intro W3 hw'
              obtain ⟨⟨W_, hb3⟩, hw''⟩ := hw'
              subst hw''
              have HRR := Lib.hid ((HR.out.below hb3).up hb3.size)
              have HBX := Lib.hid (HBX.out.below hb3)
              have hbi := Bel.trans hbi hb3
              clear p0 p1 p2 p3 p4 q0 q1 q2 q3 q4
              go_wp2
              go_roundw
              case rel => exact ⟨j + 1, by omega, by omega, by go_num, by rw [HN.out]; exact HRR.out, HBX.out, hbi⟩
              case measure => simp [intOf]; omega
          · have hz : decide (max (xs[i].Depth - xs[j].Depth) (-(xs[i].Depth - xs[j].Depth)) ≤ near) = false := decide_eq_false hA
            have HQ := Lib.hid (show qCon near xs i j = false by rw [hqc, hz]; rfl)
            clear hqc hA
            have HN := Lib.hid (conAt_no (near := near) hij HQ.out)
            refine wp_region_past (by kernel_rfl) (by kernel_rfl) ?_
            repeat (go_big_quiet_step ((first | (go_at_call 41; exact Past.same _ (abs_any _ _ (by omega) (by omega))) | (go_at_call 34; first | (with_reducible exact Past.call _ (hcx.out _)) | (with_reducible exact Past.call _ (hcy.out _))))))
            refine wpQuiet_nil ?_
            intro W3 hw'
            obtain ⟨⟨W_, hb3⟩, hw''⟩ := hw'
            subst hw''
            have HRR := Lib.hid ((HR.out.below hb3).up hb3.size)
            have HBX := Lib.hid (HBX.out.below hb3)
            have hbi := Bel.trans hbi hb3
            clear p0 p1 p2 p3 p4 q0 q1 q2 q3 q4
            go_wp2
            go_roundw
            case rel => exact ⟨j + 1, by omega, by omega, by go_num, by rw [HN.out]; exact HRR.out, HBX.out, hbi⟩
            case measure => simp [intOf]; omega
        · have hje : j = xs.length := by omega
          have HR := HR.out
          rw [hje, conAt_end] at HR
          have HR := Lib.hid HR
          clear HBX hcl hje
          go_wp2
          go_roundw
          case rel => exact ⟨i + 1, by omega, by go_num, HR.out, hbi⟩
          case measure => simp [intOf]; omega
    · obtain rfl : i = xs.length := by omega
      go_wp2
      go_ret2
      rw [ctRes_0 HV.out HH.out]
      exact ⟨⟨_, rfl, HR.out⟩, hbel⟩
theorem sContradictTests_any (xs : List STest) (b c : Nat) (near : Int) (w : World) (A : Arr STest.cells 5 w b xs) (hn : xs.length ≤ 1048576) :
    Calls Try.prog 13 #[.slice (some ⟨b, 0, none⟩) xs.length c, .int .i64 near] w
    fun e w' => (∃ v, e = .returned (.tuple #[v, .int .i64 (ctRes xs near).2]) ∧ RowF 39 2 w' w.heap.size w'.heap.size v (ctRes xs near).1.length (getF (ctRes xs near).1)) ∧ Below w.heap.size w w' := by
  have HA := Lib.hid A
  clear A
  go_enter Try.func13, Try.ntmps13
  go_wp2_with (first | (go_at_call 28; refine (l08Ok_any xs b c _ HA.out hn).mono ?_; rintro e w1 ⟨rfl, hb1⟩) | (go_at_call 38; refine (l08Near_any _ _).mono ?_; rintro e w' ⟨rfl, rfl⟩))
  all_goals try (go_ret2; first | (rw [ctRes_1 (by first | assumption | exact not_f (by assumption) | exact not_t (by assumption))]; exact ⟨⟨_, rfl, RowF.nil⟩, (by repeat (first | (with_reducible assumption) | (with_reducible exact Below.refl _ _) | (with_reducible refine Bel.alloc ?_ _) | (with_reducible refine Below.drew ?_) | (with_reducible refine Bel.drewN ?_ _) | (with_reducible refine Bel.setCell ?_ (by (try simp) <;> omega) _) | (with_reducible refine Bel.trans ?_ (by assumption))))⟩) | (rw [ctRes_2 (by first | assumption | exact not_f (by assumption) | exact not_t (by assumption)) (by first | assumption | exact not_f (by assumption) | exact not_t (by assumption))]; exact ⟨⟨_, rfl, RowF.nil⟩, (by repeat (first | (with_reducible assumption) | (with_reducible exact Below.refl _ _) | (with_reducible refine Bel.alloc ?_ _) | (with_reducible refine Below.drew ?_) | (with_reducible refine Bel.drewN ?_ _) | (with_reducible refine Bel.setCell ?_ (by (try simp) <;> omega) _) | (with_reducible refine Bel.trans ?_ (by assumption))))⟩))
  have hv : vlTest xs = true := (by first | assumption | exact not_f (by assumption) | exact not_t (by assumption))
  have hh : inr 0 300 near = true := (by first | assumption | exact not_f (by assumption) | exact not_t (by assumption))
  have hlen := vlTest_len hv
  obtain ⟨hn0, hn1⟩ := inr_bd' hh
  simp only [hv, hh, Bool.not_true]
  have HV := Lib.hid hv
  have HH := Lib.hid hh
  clear hv hh
  go_loopw [6, 7] (fun v i wr => ∃ i' : Nat, i' ≤ xs.length ∧ i = .int .i64 i' ∧ RowF 39 2 wr w.heap.size wr.heap.size v (conTo near xs i').length (getF (conTo near xs i')) ∧ Below w.heap.size w wr) (fun _ i wr => xs.length - (intOf i).toNat)
  case atStart => exact ⟨0, by omega, rfl, RowF.empty hb1.size (by simp), Bel.alloc hb1 _⟩
  case round =>
    obtain ⟨i, hi, rfl, hrow, hbel⟩ := hrel
    have HR := Lib.hid hrow
    clear hrow
    by_cases hlt : i < xs.length
    · obtain ⟨wo, rfl⟩ : ∃ wo : World, wo = wr := ⟨_, rfl⟩
      go_wp2_with fail
      go_loopw [6, 8] (fun v j wr => ∃ j' : Nat, i + 1 ≤ j' ∧ j' ≤ xs.length ∧ j = .int .i64 j' ∧ RowF 39 2 wr w.heap.size wr.heap.size v (conAt near xs i j').length (getF (conAt near xs i j')) ∧ Below w.heap.size w wr) (fun _ j wr => xs.length - (intOf j).toNat)
      case atStart => exact ⟨i + 1, by omega, by omega, by go_num, by rw [conAt_0]; exact HR.out, hbel⟩
      case round =>
        clear HR hbel
        obtain ⟨j, hij, hj, rfl, hrow, hbi⟩ := hrel
        have HR := Lib.hid hrow
        clear hrow
        have hcl := conAt_len (near := near) hlen hlt hj
        by_cases hjt : j < xs.length
        · have hbb := (HA.out.below hbi).1
          obtain ⟨p0, p1, p2, p3, p4⟩ := STest.elems (HA.out.below hbi) hlt
          obtain ⟨q0, q1, q2, q3, q4⟩ := STest.elems (HA.out.below hbi) hjt
          obtain ⟨cx, hcx⟩ : ∃ cx, cls xs[i] = cx := ⟨_, rfl⟩
          obtain ⟨cy, hcy⟩ : ∃ cy, cls xs[j] = cy := ⟨_, rfl⟩
          have hbx := cls_bd xs[i]
          have hby := cls_bd xs[j]
          rw [hcx] at hbx
          rw [hcy] at hby
          have HCX := Lib.hid hcx
          have HCY := Lib.hid hcy
          have HOX := Lib.hid (vlTest_ok HV.out i hlt)
          have HOY := Lib.hid (vlTest_ok HV.out j hjt)
          have hdx := okTest_bd HOX.out
          have hdy := okTest_bd HOY.out
          clear hcx hcy
          have hcx : Hid (∀ y : Past wr, Calls Try.prog 29 #[.pointer (some ⟨b, i * 5, none⟩)] y.w fun e w' => e = .returned (.int .i64 cx) ∧ Below y.w.heap.size y.w w') := fun y => Calls.intIs HCX.out (l08Class_any xs[i] b (i * 5) y.w (p0 y) (p1 y) (p2 y) (p3 y) (p4 y) HOX.out)
          have hcy : Hid (∀ y : Past wr, Calls Try.prog 29 #[.pointer (some ⟨b, j * 5, none⟩)] y.w fun e w' => e = .returned (.int .i64 cy) ∧ Below y.w.heap.size y.w w') := fun y => Calls.intIs HCY.out (l08Class_any xs[j] b (j * 5) y.w (q0 y) (q1 y) (q2 y) (q3 y) (q4 y) HOY.out)
          go_wp2_with fail
          have hqc := qCon_at (near := near) hlt hjt
          rw [HCX.out, HCY.out] at hqc
          by_cases hA : max (xs[i].Depth - xs[j].Depth) (-(xs[i].Depth - xs[j].Depth)) ≤ near
          · have hz : decide (max (xs[i].Depth - xs[j].Depth) (-(xs[i].Depth - xs[j].Depth)) ≤ near) = true := decide_eq_true hA
            by_cases hB : 2 ≤ max (cx - cy) (-(cx - cy))
            · have HQ := Lib.hid (show qCon near xs i j = true by rw [hqc, hz, decide_eq_true hB]; rfl)
              clear hqc hA
              have HN := Lib.hid (conAt_yes (near := near) hij HQ.out)
              refine wp_region_past (by kernel_rfl) (by kernel_rfl) ?_
              repeat (go_big_quiet_step ((first | (go_at_call 39; exact Past.same _ (l04Abs_any _ _ (by omega) (by omega))) | (go_at_call 29; first | (with_reducible exact Past.call _ (hcx.out _)) | (with_reducible exact Past.call _ (hcy.out _))))))
              refine wpQuiet_nil ?_
              intro W3 hw'
              obtain ⟨⟨W_, hb3⟩, hw''⟩ := hw'
              subst hw''
              have HRR := Lib.hid ((HR.out.below hb3).up hb3.size)
              have hbi := Bel.trans hbi hb3
              have hsz := hbi.size
              clear p0 p1 p2 p3 p4 q0 q1 q2 q3 q4
              go_wp2_with (at_builtin; refine wpList_pushLB rfl _ _ 30 rfl w.heap.size 39 2 Try.underlying30 (by kernel_rfl) u6 (conAt near xs i j) [(i : Int), (j : Int)] #[.int .i64 (i : Int), .int .i64 (j : Int)] rfl (fun n hn => (by rcases (show n = 0 ∨ n = 1 by (simp at hn; omega)) with rfl | rfl <;> rfl)) rfl HRR.out 1 rfl (by omega) hsz tneSS ?_; intro v' w4 hr4 hb4 hbx4)
              go_roundw
              case rel => exact ⟨j + 1, by omega, by omega, by go_num, by rw [HN.out]; exact hr4, hbi.trans hb4⟩
              case measure => simp [intOf]; omega
            · have HQ := Lib.hid (show qCon near xs i j = false by rw [hqc, hz, decide_eq_false hB]; rfl)
              clear hqc hA
              have HN := Lib.hid (conAt_no (near := near) hij HQ.out)
              refine wp_region_past (by kernel_rfl) (by kernel_rfl) ?_
              repeat (go_big_quiet_step ((first | (go_at_call 39; exact Past.same _ (l04Abs_any _ _ (by omega) (by omega))) | (go_at_call 29; first | (with_reducible exact Past.call _ (hcx.out _)) | (with_reducible exact Past.call _ (hcy.out _))))))
              refine wpQuiet_nil ?_
              intro W3 hw'
              obtain ⟨⟨W_, hb3⟩, hw''⟩ := hw'
              subst hw''
              have HRR := Lib.hid ((HR.out.below hb3).up hb3.size)
              have hbi := Bel.trans hbi hb3
              clear p0 p1 p2 p3 p4 q0 q1 q2 q3 q4
              go_wp2
              go_roundw
              case rel => exact ⟨j + 1, by omega, by omega, by go_num, by rw [HN.out]; exact HRR.out, hbi⟩
              case measure => simp [intOf]; omega
          · have hz : decide (max (xs[i].Depth - xs[j].Depth) (-(xs[i].Depth - xs[j].Depth)) ≤ near) = false := decide_eq_false hA
            have HQ := Lib.hid (show qCon near xs i j = false by rw [hqc, hz]; rfl)
            clear hqc hA
            have HN := Lib.hid (conAt_no (near := near) hij HQ.out)
            refine wp_region_past (by kernel_rfl) (by kernel_rfl) ?_
            repeat (go_big_quiet_step ((first | (go_at_call 39; exact Past.same _ (l04Abs_any _ _ (by omega) (by omega))) | (go_at_call 29; first | (with_reducible exact Past.call _ (hcx.out _)) | (with_reducible exact Past.call _ (hcy.out _))))))
            refine wpQuiet_nil ?_
            intro W3 hw'
            obtain ⟨⟨W_, hb3⟩, hw''⟩ := hw'
            subst hw''
            have HRR := Lib.hid ((HR.out.below hb3).up hb3.size)
            have hbi := Bel.trans hbi hb3
            clear p0 p1 p2 p3 p4 q0 q1 q2 q3 q4
            go_wp2
            go_roundw
            case rel => exact ⟨j + 1, by omega, by omega, by go_num, by rw [HN.out]; exact HRR.out, hbi⟩
            case measure => simp [intOf]; omega
        · have hje : j = xs.length := by omega
          have HR := HR.out
          rw [hje, conAt_end] at HR
          have HR := Lib.hid HR
          clear hcl hje
          go_wp2
          go_roundw
          case rel => exact ⟨i + 1, by omega, by go_num, HR.out, hbi⟩
          case measure => simp [intOf]; omega
    · obtain rfl : i = xs.length := by omega
      go_wp2
      go_ret2
      rw [ctRes_0 HV.out HH.out]
      exact ⟨⟨_, rfl, HR.out⟩, hbel⟩
end Go.Proofs.Ytlicpgmcnebpmaa
