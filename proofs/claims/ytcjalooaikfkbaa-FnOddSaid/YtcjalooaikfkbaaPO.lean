/- FnOdd: for every input the law answers true. No condition. -/
import Derived.Test.YtcjalooaikfkbaaL04y
import Derived.Test.YtcjalooaikfkbaaL04v
import Derived.Test.YtcjalooaikfkbaaLawB
import Derived.Test.YtcjalooaikfkbaaRowU
import Derived.Deep.CutRange
namespace Go.Proofs.Ytcjalooaikfkbaa
set_option linter.unusedSimpArgs false
set_option linter.unusedVariables false
open Go.RowKit
set_option maxHeartbeats 3200000
set_option maxRecDepth 100000 in
theorem lawFnOdd (A1 : Option Addr) (c1 : Nat) (xs1 : List Int) (A2 : Option Addr) (c2 : Nat) (xs2 : List Int) (w : World) (h1 : Bytes9 w w.heap.size A1 xs1.length) (k1 : xs1.length ≤ c1 ∧ c1 ≤ 9223372036854775807)
    (h2 : Bytes9 w w.heap.size A2 xs2.length) (k2 : xs2.length ≤ c2 ∧ c2 ≤ 9223372036854775807) :
    Calls Try.prog 6 #[.slice A1 xs1.length c1, .slice A2 xs2.length c2] w fun e w' => e = .returned (.bool true) ∧ Below w.heap.size w w' := by
  generalize xs1.length = n1 at *
  generalize xs2.length = n2 at *
  obtain ⟨k1, k1'⟩ := k1
  obtain ⟨k2, k2'⟩ := k2
  by_cases hl1 : (1048576 : Int) < (n1 : Int)
  · go_enter Try.func6, Try.ntmps6
    go_wp2_with (go_at_call 7; refine (b10LongS_any _ _ _ _).mono ?_; rintro e w' ⟨rfl, rfl⟩)
    go_ret
    exact ⟨rfl, (by repeat (first | (with_reducible assumption) | (with_reducible exact Below.refl _ _) | (with_reducible refine Bel.alloc ?_ _) | (with_reducible refine Below.drew ?_) | (with_reducible refine Bel.drewN ?_ _) | (with_reducible refine Bel.setCell ?_ (by (try simp) <;> omega) _) | (with_reducible refine Bel.trans ?_ (by assumption))))⟩
  by_cases hl2 : (1048576 : Int) < (n2 : Int)
  · go_enter Try.func6, Try.ntmps6
    go_wp2_with (go_at_call 7; refine (b10LongS_any _ _ _ _).mono ?_; rintro e w' ⟨rfl, rfl⟩)
    go_ret
    exact ⟨rfl, (by repeat (first | (with_reducible assumption) | (with_reducible exact Below.refl _ _) | (with_reducible refine Bel.alloc ?_ _) | (with_reducible refine Below.drew ?_) | (with_reducible refine Bel.drewN ?_ _) | (with_reducible refine Bel.setCell ?_ (by (try simp) <;> omega) _) | (with_reducible refine Bel.trans ?_ (by assumption))))⟩
  have H1 := Lib.hid h1
  have H2 := Lib.hid h2
  clear h1 h2
  go_enter Try.func6, Try.ntmps6
  go_wp2_with (go_at_call 7; refine (b10LongS_any _ _ _ _).mono ?_; rintro e w' ⟨rfl, rfl⟩)
  refine (DrawWithoutOdd_any A1 n1 c1 (by omega) k1 k1' H1.out).mono ?_
  rintro e w1 ⟨⟨xs, b, d, s, q, rfl, hx, A⟩, hb1⟩
  have hbw := hb1
  have HA := Lib.hid A
  clear hb1 A
  go_wp2_with fail
  refine (WithoutOdd_any xs b d s q _ HA.out (by omega)).mono ?_
  rintro e w2 ⟨⟨v, rfl, R⟩, hb⟩
  obtain ⟨D, c, rfl, -⟩ := R.form (fun _ => rfl)
  have HA := Lib.hid (HA.out.below hb)
  have hbw := Bel.trans hbw hb
  clear hb
  obtain ⟨l1, hl1'⟩ : ∃ l1, (woRes xs s q).1.length = l1 := ⟨_, rfl⟩
  obtain ⟨oc, hoc⟩ : ∃ oc, (woRes xs s q).2 = oc := ⟨_, rfl⟩
  rw [hl1', hoc]
  have HL1 := Lib.hid hl1'
  have HOC := Lib.hid hoc
  have HR := Lib.hid R
  clear hl1' hoc R
  go_wp2_with fail
  refine (OddObserved_any xs b d s q _ HA.out (by omega)).mono ?_
  rintro e w3 ⟨⟨v2, rfl, R2⟩, hb⟩
  obtain ⟨D2, c2', rfl, -⟩ := R2.form (fun _ => rfl)
  have HA := Lib.hid (HA.out.below hb)
  have HR := Lib.hid (HR.out.below hb)
  have hbw := Bel.trans hbw hb
  clear hb R2
  obtain ⟨l2, hl2'⟩ : ∃ l2, (ooRes xs s q).1.length = l2 := ⟨_, rfl⟩
  have hoc2 : (ooRes xs s q).2 = oc := by rw [← HOC.out]; exact (codes_same xs s q).symm
  rw [hl2', hoc2]
  have HL2 := Lib.hid hl2'
  clear hl2' hoc2
  go_upto_if 54 with fail
  go_cut [5, 6, 7, 8, 9, 10, 11, 12, 13, 14, 15, 16] from 24 (fun _ _ _ _ _ _ _ _ _ _ _ _ wx => Below w.heap.size w wx)
  case first =>
    by_cases ho : oc = 0
    · subst ho
      obtain ⟨hv, hvl, hoo, hi1, hi2, h48⟩ := odd1 HOC.out
      rw [HL1.out, HL2.out] at hi1
      rw [HL1.out] at hi2
      have hq := (codes_0 HOC.out).2
      have hR := HR.out
      have HOD := Lib.hid (left_odd hR hvl hq hoo)
      have HOK := Lib.hid (left_ok hR hvl)
      have HCS := Lib.hid (odd2 hv)
      rw [HL1.out] at HOD HOK
      clear hvl hoo hv hq hR
      have HI1 := Lib.hid hi1
      have HI2 := Lib.hid hi2
      clear hi1 hi2 HL1 HL2
      go_wp2_with fail
      refine (HOD.out _ (Below.refl _ _)).mono ?_
      rintro e w4 ⟨⟨D4, c4, rfl⟩, hb⟩
      have HA := Lib.hid (HA.out.below hb)
      have hbw := Bel.trans hbw hb
      have HB4 := Lib.hid hb
      clear hb
      go_wp2_with fail
      refine (HOK.out _ HB4.out).mono ?_
      rintro e w5 ⟨rfl, hb⟩
      have HA := Lib.hid (HA.out.below hb)
      have hbw := Bel.trans hbw hb
      clear hb
      by_cases z1 : l2 = 0
      · have z2 := HI1.out.2 z1
        subst z1
        subst z2
        by_cases z3 : xs.length = 0
        · have b3 : ((xs.length : Int) == 0) = true := beq_iff_eq.mpr (by omega)
          clear z3 HI1 HI2
          go_wp2_with fail
          refine (CompareStations_any xs xs b d b d _ HA.out HA.out (by omega) (by omega)).mono ?_
          rintro e w6 ⟨rfl, hb⟩
          rw [HCS.out]
          have hbw := Bel.trans hbw hb
          clear hb
          go_wp2_with fail
          go_meet
          exact hbw
        · have b3 : ((xs.length : Int) == 0) = false := beq_eq_false_iff_ne.mpr (by omega)
          clear z3 HI1 HI2
          go_wp2_with fail
          refine (CompareStations_any xs xs b d b d _ HA.out HA.out (by omega) (by omega)).mono ?_
          rintro e w6 ⟨rfl, hb⟩
          rw [HCS.out]
          have hbw := Bel.trans hbw hb
          clear hb
          go_wp2_with fail
          go_meet
          exact hbw
      · have z2 : ((l1 : Int) == (xs.length : Int)) = false := beq_eq_false_iff_ne.mpr (fun e => z1 (HI1.out.1 (by omega)))
        have z4 : ((l2 : Int) == 0) = false := beq_eq_false_iff_ne.mpr (by omega)
        by_cases z3 : xs.length = 0
        · have b3 : ((xs.length : Int) == 0) = true := beq_iff_eq.mpr (by omega)
          have b4 : ((l1 : Int) == 0) = true := beq_iff_eq.mpr (by have := HI2.out.2 z3; omega)
          clear z3 HI1 HI2 z1
          go_wp2_with fail
          refine (CompareStations_any xs xs b d b d _ HA.out HA.out (by omega) (by omega)).mono ?_
          rintro e w6 ⟨rfl, hb⟩
          rw [HCS.out]
          have hbw := Bel.trans hbw hb
          clear hb
          go_wp2_with fail
          go_meet
          exact hbw
        · have b3 : ((xs.length : Int) == 0) = false := beq_eq_false_iff_ne.mpr (by omega)
          have b4 : ((l1 : Int) == 0) = false := beq_eq_false_iff_ne.mpr (fun e => z3 (HI2.out.1 (by omega)))
          clear z3 HI1 HI2 z1
          go_wp2_with fail
          refine (CompareStations_any xs xs b d b d _ HA.out HA.out (by omega) (by omega)).mono ?_
          rintro e w6 ⟨rfl, hb⟩
          rw [HCS.out]
          have hbw := Bel.trans hbw hb
          clear hb
          go_wp2_with fail
          go_meet
          exact hbw
    · have h0 : (oc == 0) = false := beq_eq_false_iff_ne.mpr ho
      clear ho
      go_wp2_with fail
      go_meet
      exact hbw
  case rest =>
  have hbw := hcut
  clear hcut HA HR HL1 HL2 HOC
  go_wp2_with fail
  refine (DrawMissingHours_any A2 n2 c2 (by omega) k2 k2' (H2.out.to hbw)).mono ?_
  rintro e w4 ⟨⟨ys, b2, d2, f, u, rfl, hy, A⟩, hb⟩
  have hbw := Bel.trans hbw hb
  have HA := Lib.hid A
  clear hb A
  go_wp2_with fail
  refine (MissingHours_any ys b2 d2 f u _ HA.out (by omega)).mono ?_
  rintro e w5 ⟨⟨v, rfl, R⟩, hb⟩
  obtain ⟨D5, c5, rfl, hS⟩ := R.form (fun _ => rfl)
  have HA := Lib.hid (HA.out.below hb)
  have hbw := Bel.trans hbw hb
  have hl64 := mhRes_len (xs := ys) (f := f) (u := u)
  clear hb R
  rcases mh_cases ys f u with ⟨m0, mv, mf0, mf1, mu0, mu1, n, mu, ml⟩ | ⟨m1, ml⟩
  · have m0b : ((mhRes ys f u).2 == 0) = true := beq_iff_eq.mpr m0
    have hcnt := mis_count mv f n
    rw [← mu] at hcnt
    rw [ml] at hS hl64 ⊢
    rw [m0]
    have HS := Lib.hid hS
    have HV := Lib.hid mv
    have HC := Lib.hid hcnt
    have HN : Hid (∀ k (hk : k < ys.length), ys[k].Hour ∉ numL (mis ys) f n) := Lib.hid (fun k hk => mis_not mv hk)
    have hmu : u - f = (n : Int) := by omega
    have HMU := Lib.hid hmu
    clear m0 m0b mv mu hmu hcnt ml hS
    generalize numL (mis ys) f n = L at *
    go_wp2_with fail
    go_loopw [22, 23] (fun t i wr => ∃ k : Nat, k ≤ ys.length ∧ i = .int .i64 k ∧ t = .int .i64 (cntL (qIn f u) ys k) ∧ Below w5.heap.size w5 wr) (fun _ i wr => ys.length - (intOf i).toNat)
    case atStart => exact ⟨0, by omega, rfl, by rw [cntL_0]; rfl, Below.refl _ _⟩
    case round =>
      obtain ⟨k, hk, rfl, rfl, hb5⟩ := hrel
      have hcl := cntL_le (qIn f u) ys k
      by_cases hlt : k < ys.length
      · obtain ⟨p0, p1, p2, p3⟩ := SObserved.elem (HA.out.below hb5) hlt
        have HS5 : Hid (ArgS intc 1 wr D5 L) := Lib.hid (HS.out.below hb5)
        have HNK : Hid (decide (ys[k].Hour ∈ L) = false) := Lib.hid (decide_eq_false (HN.out k hlt))
        by_cases g1 : f ≤ ys[k].Hour
        · by_cases g2 : ys[k].Hour < u
          · have HST : Hid (cntL (qIn f u) ys (k + 1) = cntL (qIn f u) ys k + 1) := Lib.hid (cntL_yes hlt (by simp [qIn] <;> omega))
            generalize cntL (qIn f u) ys k = m at *
            go_wp2_with fail
            refine (Calls.boolIs HNK.out (b10Has_any HS5.out _ (by omega))).mono ?_
            rintro e w6 ⟨rfl, hb6⟩
            clear p0 p1 p2 p3
            go_wp2
            go_roundw
            case rel => exact ⟨k + 1, by omega, by go_num, by rw [HST.out] <;> go_num, Bel.trans hb5 hb6⟩
            case measure => simp [intOf]; omega
          · have HST : Hid (cntL (qIn f u) ys (k + 1) = cntL (qIn f u) ys k) := Lib.hid (cntL_no hlt (by simp [qIn] <;> omega))
            generalize cntL (qIn f u) ys k = m at *
            go_wp2_with fail
            refine (Calls.boolIs HNK.out (b10Has_any HS5.out _ (by omega))).mono ?_
            rintro e w6 ⟨rfl, hb6⟩
            clear p0 p1 p2 p3
            go_wp2
            go_roundw
            case rel => exact ⟨k + 1, by omega, by go_num, by rw [HST.out] <;> go_num, Bel.trans hb5 hb6⟩
            case measure => simp [intOf]; omega
        · have HST : Hid (cntL (qIn f u) ys (k + 1) = cntL (qIn f u) ys k) := Lib.hid (cntL_no hlt (by simp [qIn] <;> omega))
          generalize cntL (qIn f u) ys k = m at *
          go_wp2_with fail
          refine (Calls.boolIs HNK.out (b10Has_any HS5.out _ (by omega))).mono ?_
          rintro e w6 ⟨rfl, hb6⟩
          clear p0 p1 p2 p3
          go_wp2
          go_roundw
          case rel => exact ⟨k + 1, by omega, by go_num, by rw [HST.out] <;> go_num, Bel.trans hb5 hb6⟩
          case measure => simp [intOf]; omega
      · obtain rfl : k = ys.length := by omega
        generalize hm : cntL (qIn f u) ys ys.length = m at *
        have hfin : ((L.length : Int) + (m : Int) == u - f) = true := beq_iff_eq.mpr (by rw [HMU.out]; have := HC.out; omega)
        clear hm
        have hmb : m ≤ 60 := by omega
        go_wp2_with fail
        go_ret
        exact ⟨ret_bool (by first | rfl | simpa using hfin), Bel.trans hbw hb5⟩
  · have m1b : ((mhRes ys f u).2 == 0) = false := beq_eq_false_iff_ne.mpr m1
    rw [ml]
    clear m1 ml hl64
    generalize (mhRes ys f u).2 = mc at *
    go_wp2_with fail
    go_ret
    exact ⟨rfl, hbw⟩
end Go.Proofs.Ytcjalooaikfkbaa
