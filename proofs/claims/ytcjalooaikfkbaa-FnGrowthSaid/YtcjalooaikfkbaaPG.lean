/- FnGrowth: for every input the law answers true. No condition. -/
import Derived.Test.YtcjalooaikfkbaaL12y
import Derived.Test.YtcjalooaikfkbaaL12w
import Derived.Test.YtcjalooaikfkbaaL12d
import Derived.Test.YtcjalooaikfkbaaL12e
import Derived.Test.YtcjalooaikfkbaaLawB
import Derived.Test.YtcjalooaikfkbaaRowU
import Derived.Deep.CutRange
namespace Go.Proofs.Ytcjalooaikfkbaa
set_option linter.unusedSimpArgs false
set_option linter.unusedVariables false
open Go.RowKit
set_option maxHeartbeats 3200000
theorem growth_row {xs : List SPart} {t s : Int} {base l o c : Nat} {oo : Int} {D : Option Addr} {ti : TypeId} {w : World} (R : Row intc 1 ti w base (.slice D l c) (grRes xs t s).1) (ho : (grRes xs t s).2 = 0) : ArgS intc 1 w D (growL xs s t xs.length) := by
  have h := R.argS (fun _ => rfl)
  rwa [(gr_ok ho).2.2] at h
theorem growth_len {xs : List SPart} {t s : Int} (ho : (grRes xs t s).2 = 0) : (grRes xs t s).1.length = xs.length := by rw [(gr_ok ho).2.2, growL_len]
set_option maxRecDepth 100000 in
theorem lawFnGrowth (A1 : Option Addr) (c1 : Nat) (xs1 : List Int) (A2 : Option Addr) (c2 : Nat) (xs2 : List Int) (w : World) (h1 : Bytes9 w w.heap.size A1 xs1.length) (k1 : xs1.length ≤ c1 ∧ c1 ≤ 9223372036854775807)
    (h2 : Bytes9 w w.heap.size A2 xs2.length) (k2 : xs2.length ≤ c2 ∧ c2 ≤ 9223372036854775807) :
    Calls Try.prog 4 #[.slice A1 xs1.length c1, .slice A2 xs2.length c2] w fun e w' => e = .returned (.bool true) ∧ Below w.heap.size w w' := by
  generalize xs1.length = n1 at *
  generalize xs2.length = n2 at *
  obtain ⟨k1, k1'⟩ := k1
  obtain ⟨k2, k2'⟩ := k2
  by_cases hl1 : (1048576 : Int) < (n1 : Int)
  · go_enter Try.func4, Try.ntmps4
    go_wp2_with (go_at_call 7; refine (b10LongS_any _ _ _ _).mono ?_; rintro e w' ⟨rfl, rfl⟩)
    go_ret
    exact ⟨rfl, (by repeat (first | (with_reducible assumption) | (with_reducible exact Below.refl _ _) | (with_reducible refine Bel.alloc ?_ _) | (with_reducible refine Below.drew ?_) | (with_reducible refine Bel.drewN ?_ _) | (with_reducible refine Bel.setCell ?_ (by (try simp) <;> omega) _) | (with_reducible refine Bel.trans ?_ (by assumption))))⟩
  by_cases hl2 : (1048576 : Int) < (n2 : Int)
  · go_enter Try.func4, Try.ntmps4
    go_wp2_with (go_at_call 7; refine (b10LongS_any _ _ _ _).mono ?_; rintro e w' ⟨rfl, rfl⟩)
    go_ret
    exact ⟨rfl, (by repeat (first | (with_reducible assumption) | (with_reducible exact Below.refl _ _) | (with_reducible refine Bel.alloc ?_ _) | (with_reducible refine Below.drew ?_) | (with_reducible refine Bel.drewN ?_ _) | (with_reducible refine Bel.setCell ?_ (by (try simp) <;> omega) _) | (with_reducible refine Bel.trans ?_ (by assumption))))⟩
  have H1 := Lib.hid h1
  have H2 := Lib.hid h2
  clear h1 h2
  go_enter Try.func4, Try.ntmps4
  go_wp2_with (go_at_call 7; refine (b10LongS_any _ _ _ _).mono ?_; rintro e w' ⟨rfl, rfl⟩)
  refine (DrawLargestMass_any A1 n1 c1 (by omega) k1 k1' H1.out).mono ?_
  rintro e w1 ⟨⟨xs, b, d, t, s, rfl, hx, A⟩, hb1⟩
  have hbw := hb1
  have HA := Lib.hid A
  clear hb1 A
  go_wp2_with fail
  refine (GrowthOf_any xs b d t s _ HA.out (by omega)).mono ?_
  rintro e w2 ⟨⟨p, rfl, pR⟩, hb⟩
  obtain ⟨pD, pc, rfl, -⟩ := pR.form (fun _ => rfl)
  obtain ⟨pl, phl⟩ : ∃ pl, (grRes xs t s).1.length = pl := ⟨_, rfl⟩
  obtain ⟨po, pho⟩ : ∃ po, (grRes xs t s).2 = po := ⟨_, rfl⟩
  rw [phl] at pR ⊢
  rw [pho]
  have HA := Lib.hid (HA.out.below hb)
  have hbw := Bel.trans hbw hb
  have pHR := Lib.hid pR
  have pHB := Lib.hid hb
  have pHL := Lib.hid phl
  have pHO := Lib.hid pho
  clear pR phl pho hb
  go_wp2_with fail
  refine (LargestMass_any xs b d t s _ HA.out (by omega)).mono ?_
  rintro e w3 ⟨rfl, hb⟩
  have HA := Lib.hid (HA.out.below hb)
  have pHR := Lib.hid (pHR.out.below hb)
  have hbw := Bel.trans hbw hb
  clear hb
  obtain ⟨lk, hlk⟩ : ∃ lk, (lmRes xs t s).1 = lk := ⟨_, rfl⟩
  obtain ⟨lm, hlm⟩ : ∃ lm, (lmRes xs t s).2.1 = lm := ⟨_, rfl⟩
  obtain ⟨lo, hlo⟩ : ∃ lo, (lmRes xs t s).2.2 = lo := ⟨_, rfl⟩
  rw [hlk, hlm, hlo]
  have HLK := Lib.hid hlk
  have HLM := Lib.hid hlm
  have HLO := Lib.hid hlo
  clear hlk hlm hlo
  go_upto_if 56 with fail
  go_cut [5, 6, 7, 8, 9, 10, 11, 12, 13, 14, 15, 16, 17, 18] from 28 (fun _ _ _ _ _ _ _ _ _ _ _ _ _ _ wx => Below w.heap.size w wx)
  case first =>
    by_cases ho : po = 0
    · subst ho
      have hg := pHO.out
      have hrow := growth_row (o := 0) (oo := 0) pHR.out hg
      have hlen := growth_len hg
      rw [pHL.out] at hlen
      subst hlen
      obtain ⟨hlm1, hlm2⟩ := gr_lm hg
      rw [HLM.out, HLK.out] at hlm2
      rw [HLO.out] at hlm1
      obtain ⟨hst1, hst2⟩ := gr_still hg
      have hbd := gr_bd hg
      have HS := Lib.hid hrow
      have HLM2 := Lib.hid hlm2
      have HST1 := Lib.hid hst1
      have HST2 := Lib.hid hst2
      have HBD := Lib.hid hbd
      have hx24 := (hbd 0 (by omega)).1
      have HQ : Hid ((lo == 0) = decide ((0 : Int) < (xs.length : Int))) := Lib.hid (by
        by_cases h0 : 0 < xs.length
        · rw [hlm1.2 h0, decide_eq_true (by omega)]; rfl
        · rw [decide_eq_false (by omega)]
          simp only [beq_eq_false_iff_ne]
          exact fun e => h0 (hlm1.1 e))
      clear hg hrow hlm1 hlm2 hst1 hst2 hbd HLK HLM HLO pHR pHO pHL
      have hq := HQ.out
      by_cases hz : 0 < xs.length
      · have hcmp : (0 : Int) < (xs.length : Int) := by omega
        rw [decide_eq_true hcmp] at hq
        obtain rfl : lo = 0 := by simpa using hq
        clear hq HQ
        go_wp2_with fail
        go_loopw [13, 14, 15] (fun l i n wr => ∃ k : Nat, k ≤ xs.length ∧ i = .int .i64 k ∧ l = .int .i64 (massL xs s t k) ∧ Below w3.heap.size w3 wr) (fun _ i _ wr => xs.length - (intOf i).toNat)
        case atStart => exact ⟨0, by omega, rfl, rfl, Below.refl _ _⟩
        case round =>
          obtain ⟨k, hk, rfl, rfl, hb3⟩ := hrel
          by_cases hlt : k < xs.length
          · obtain ⟨bb, oo, rfl, hc⟩ := HS.out (by rw [growL_len]; omega)
            have c1 := growC (hc.below hb3 hc.1) hlt
            obtain ⟨i1, i2, i3, i4⟩ := HLM2.out k hlt
            obtain ⟨-, -, -, b4, b5⟩ := HBD.out k (by omega)
            obtain ⟨-, -, -, b6, b7⟩ := HBD.out (k + 1) (by omega)
            rw [inc] at i1 i2 i3 i4
            obtain ⟨m1, hm1⟩ : ∃ m1, massL xs s t (k + 1) = m1 := ⟨_, rfl⟩
            have HM1 := Lib.hid hm1
            rw [hm1] at c1 i1 i2 i3 i4 b6 b7
            clear hm1 hc
            generalize massL xs s t k = m0 at *
            have j1 : ¬ m1 - m0 < 0 := by omega
            have j2 : ¬ m0 < m1 - m0 := by omega
            have j3 : ¬ lm < m1 - m0 := by omega
            clear i1 i2 i3
            by_cases hkk : lk = (k : Int)
            · have j4 : ((m1 - m0) == lm) = true := beq_iff_eq.mpr (i4 hkk)
              have j5 : ((k : Int) == lk) = true := beq_iff_eq.mpr hkk.symm
              clear i4 hkk
              go_wp2_with fail
              go_roundw
              case rel => exact ⟨k + 1, by omega, by go_num, by rw [HM1.out], hb3⟩
              case measure => simp [intOf]; omega
            · have j5 : ((k : Int) == lk) = false := beq_eq_false_iff_ne.mpr (fun e => hkk e.symm)
              clear i4 hkk
              go_wp2_with fail
              go_roundw
              case rel => exact ⟨k + 1, by omega, by go_num, by rw [HM1.out], hb3⟩
              case measure => simp [intOf]; omega
          · obtain rfl : k = xs.length := by omega
            have HA := Lib.hid (HA.out.below hb3)
            have hbw := Bel.trans hbw hb3
            clear hb3 HS HLM2
            go_wp2_with fail
            refine (GrowthOf_any xs b d t 0 _ HA.out (by omega)).mono ?_
            rintro e w4 ⟨⟨z, rfl, zR⟩, hb⟩
            obtain ⟨zD, zc, rfl, -⟩ := zR.form (fun _ => rfl)
            obtain ⟨zl, zhl⟩ : ∃ zl, (grRes xs t 0).1.length = zl := ⟨_, rfl⟩
            obtain ⟨zo, zho⟩ : ∃ zo, (grRes xs t 0).2 = zo := ⟨_, rfl⟩
            rw [zhl] at zR ⊢
            rw [zho]
            have HA := Lib.hid (HA.out.below hb)
            have hbw := Bel.trans hbw hb
            have zHR := Lib.hid zR
            have zHB := Lib.hid hb
            have zHL := Lib.hid zhl
            have zHO := Lib.hid zho
            clear zR zhl zho hb
            have hzl := zHL.out
            have hzo := zHO.out
            rw [HST1.out] at hzl hzo
            simp only [growL_len] at hzl hzo
            subst hzl
            subst hzo
            have hzr := growth_row (o := 0) (oo := 0) zHR.out zHO.out
            have HZ := Lib.hid hzr
            clear hzr zHR zHO zHL HST1
            go_wp2_with fail
            go_loopw [18] (fun i wr => ∃ k : Nat, k ≤ xs.length ∧ i = .int .i64 k ∧ Below w4.heap.size w4 wr) (fun i wr => xs.length - (intOf i).toNat)
            case atStart => exact ⟨0, by omega, rfl, Below.refl _ _⟩
            case round =>
              obtain ⟨k, hk, rfl, hb4⟩ := hrel
              by_cases hlt : k < xs.length
              · obtain ⟨bb, oo, rfl, hc⟩ := HZ.out (by rw [growL_len]; omega)
                have c1 := growC (hc.below hb4 hc.1) hlt
                rw [HST2.out] at c1
                clear hc
                go_wp2_with fail
                go_roundw
                case rel => exact ⟨k + 1, by omega, by go_num, hb4⟩
                case measure => simp [intOf]; omega
              · obtain rfl : k = xs.length := by omega
                go_wp2_with fail
                go_meet
                exact Bel.trans hbw hb4
      · have hcmp : ¬ (0 : Int) < (xs.length : Int) := by omega
        rw [decide_eq_false hcmp] at hq
        have HX := Lib.hid hcmp
        have hx0 : xs.length ≤ 0 := by omega
        clear HQ
        go_wp2_with fail
        go_loopw [13, 14, 15] (fun l i n wr => ∃ k : Nat, k ≤ xs.length ∧ i = .int .i64 k ∧ l = .int .i64 (massL xs s t k) ∧ Below w3.heap.size w3 wr) (fun _ i _ wr => xs.length - (intOf i).toNat)
        case atStart => exact ⟨0, by omega, rfl, rfl, Below.refl _ _⟩
        case round =>
          obtain ⟨k, hk, rfl, rfl, hb3⟩ := hrel
          by_cases hlt : k < xs.length
          · exfalso; omega
          · obtain rfl : k = xs.length := by omega
            have HA := Lib.hid (HA.out.below hb3)
            have hbw := Bel.trans hbw hb3
            clear hb3 HS HLM2
            go_wp2_with fail
            refine (GrowthOf_any xs b d t 0 _ HA.out (by omega)).mono ?_
            rintro e w4 ⟨⟨z, rfl, zR⟩, hb⟩
            obtain ⟨zD, zc, rfl, -⟩ := zR.form (fun _ => rfl)
            obtain ⟨zl, zhl⟩ : ∃ zl, (grRes xs t 0).1.length = zl := ⟨_, rfl⟩
            obtain ⟨zo, zho⟩ : ∃ zo, (grRes xs t 0).2 = zo := ⟨_, rfl⟩
            rw [zhl] at zR ⊢
            rw [zho]
            have HA := Lib.hid (HA.out.below hb)
            have hbw := Bel.trans hbw hb
            have zHR := Lib.hid zR
            have zHB := Lib.hid hb
            have zHL := Lib.hid zhl
            have zHO := Lib.hid zho
            clear zR zhl zho hb
            have hzl := zHL.out
            have hzo := zHO.out
            rw [HST1.out] at hzl hzo
            simp only [growL_len] at hzl hzo
            subst hzl
            subst hzo
            have hzr := growth_row (o := 0) (oo := 0) zHR.out zHO.out
            have HZ := Lib.hid hzr
            clear hzr zHR zHO zHL HST1
            go_wp2_with fail
            go_loopw [18] (fun i wr => ∃ k : Nat, k ≤ xs.length ∧ i = .int .i64 k ∧ Below w4.heap.size w4 wr) (fun i wr => xs.length - (intOf i).toNat)
            case atStart => exact ⟨0, by omega, rfl, Below.refl _ _⟩
            case round =>
              obtain ⟨k, hk, rfl, hb4⟩ := hrel
              by_cases hlt : k < xs.length
              · exfalso; omega
              · obtain rfl : k = xs.length := by omega
                go_wp2_with fail
                go_meet
                exact Bel.trans hbw hb4
    · obtain ⟨e1, e2⟩ := gr_no (xs := xs) (t := t) (s := s) (by rw [pHO.out]; exact ho)
      rw [HLO.out] at e2
      have hpl : pl = 0 := by rw [← pHL.out, e1]; rfl
      subst hpl
      have h0 : (po == 0) = false := beq_eq_false_iff_ne.mpr ho
      have h1 : (lo == 0) = false := beq_eq_false_iff_ne.mpr e2
      clear e1 e2 ho HLK HLM HLO pHR pHO pHL
      go_wp2_with fail
      go_meet
      exact hbw
  case rest =>
  have hbw := hcut
  clear hcut HA pHR pHO pHL HLK HLM HLO
  go_wp2_with fail
  refine (DrawLeastStart_any A2 n2 c2 (by omega) k2 k2' (H2.out.to hbw)).mono ?_
  rintro e w4 ⟨⟨ps, b2, d2, q, g, rfl, hy, A⟩, hb⟩
  have hbw := Bel.trans hbw hb
  have HA := Lib.hid A
  clear hb A
  go_wp2_with fail
  refine (LeastStart_any ps b2 d2 q g _ HA.out (by omega)).mono ?_
  rintro e w5 ⟨rfl, hb⟩
  have HA := Lib.hid (HA.out.below hb)
  have hbw := Bel.trans hbw hb
  clear hb
  obtain ⟨st, hst⟩ : ∃ st, (lsRes ps q g).1 = st := ⟨_, rfl⟩
  obtain ⟨so, hso⟩ : ∃ so, (lsRes ps q g).2 = so := ⟨_, rfl⟩
  rw [hst, hso]
  by_cases ho : so = 0
  · subst ho
    by_cases hl : ps.length = 0
    · obtain ⟨e1, e2, e3⟩ := ls_none hso hl
      rw [hst] at e1
      subst e1
      have hcl : ((ps.length : Int) == 0) = true := beq_iff_eq.mpr (by omega)
      clear hst hso hl
      go_wp2_with fail
      refine (GrowthOf_any ps b2 d2 st q _ HA.out (by omega)).mono ?_
      rintro e w6 ⟨⟨p, rfl, pR⟩, hb⟩
      obtain ⟨pD, pc, rfl, -⟩ := pR.form (fun _ => rfl)
      obtain ⟨pl, phl⟩ : ∃ pl, (grRes ps st q).1.length = pl := ⟨_, rfl⟩
      obtain ⟨po, pho⟩ : ∃ po, (grRes ps st q).2 = po := ⟨_, rfl⟩
      rw [phl] at pR ⊢
      rw [pho]
      have HA := Lib.hid (HA.out.below hb)
      have hbw := Bel.trans hbw hb
      have pHR := Lib.hid pR
      have pHB := Lib.hid hb
      have pHL := Lib.hid phl
      have pHO := Lib.hid pho
      clear pR phl pho hb
      go_wp2_with fail
      refine (GrowthOf_any ps b2 d2 (st - 1) q _ HA.out (by omega)).mono ?_
      rintro e w7 ⟨⟨r, rfl, rR⟩, hb⟩
      obtain ⟨rD, rc, rfl, -⟩ := rR.form (fun _ => rfl)
      obtain ⟨rl, rhl⟩ : ∃ rl, (grRes ps (st - 1) q).1.length = rl := ⟨_, rfl⟩
      obtain ⟨ro, rho⟩ : ∃ ro, (grRes ps (st - 1) q).2 = ro := ⟨_, rfl⟩
      rw [rhl] at rR ⊢
      rw [rho]
      have HA := Lib.hid (HA.out.below hb)
      have hbw := Bel.trans hbw hb
      have rHR := Lib.hid rR
      have rHB := Lib.hid hb
      have rHL := Lib.hid rhl
      have rHO := Lib.hid rho
      clear rR rhl rho hb
      go_wp2_with fail
      go_ret
      exact ⟨rfl, hbw⟩
    · obtain ⟨e1, e2, e3, e4, e5, e6⟩ := ls_some hso hl
      rw [hst] at e1 e2 e3 e5 e6
      have hcl : ((ps.length : Int) == 0) = false := beq_eq_false_iff_ne.mpr (by omega)
      have hn3 : ¬ g < st := by omega
      have hpos : (0 : Int) < (ps.length : Int) := by omega
      have hpos' : 0 < ps.length := by omega
      have HE5 := Lib.hid e5
      have HE6 := Lib.hid e6
      clear hst hso hl e5 e6
      go_wp2_with fail
      refine (GrowthOf_any ps b2 d2 st q _ HA.out (by omega)).mono ?_
      rintro e w6 ⟨⟨p, rfl, pR⟩, hb⟩
      obtain ⟨pD, pc, rfl, -⟩ := pR.form (fun _ => rfl)
      obtain ⟨pl, phl⟩ : ∃ pl, (grRes ps st q).1.length = pl := ⟨_, rfl⟩
      obtain ⟨po, pho⟩ : ∃ po, (grRes ps st q).2 = po := ⟨_, rfl⟩
      rw [phl] at pR ⊢
      rw [pho]
      have HA := Lib.hid (HA.out.below hb)
      have hbw := Bel.trans hbw hb
      have pHR := Lib.hid pR
      have pHB := Lib.hid hb
      have pHL := Lib.hid phl
      have pHO := Lib.hid pho
      clear pR phl pho hb
      go_wp2_with fail
      refine (GrowthOf_any ps b2 d2 (st - 1) q _ HA.out (by omega)).mono ?_
      rintro e w7 ⟨⟨r, rfl, rR⟩, hb⟩
      obtain ⟨rD, rc, rfl, -⟩ := rR.form (fun _ => rfl)
      obtain ⟨rl, rhl⟩ : ∃ rl, (grRes ps (st - 1) q).1.length = rl := ⟨_, rfl⟩
      obtain ⟨ro, rho⟩ : ∃ ro, (grRes ps (st - 1) q).2 = ro := ⟨_, rfl⟩
      rw [rhl] at rR ⊢
      rw [rho]
      have HA := Lib.hid (HA.out.below hb)
      have hbw := Bel.trans hbw hb
      have rHR := Lib.hid rR
      have rHB := Lib.hid hb
      have rHL := Lib.hid rhl
      have rHO := Lib.hid rho
      clear rR rhl rho hb
      have hz1 : (1 : Int) ≤ (ps.length : Int) := by omega
      have hz2 : IntKind.i64.wrap ((ps.length : Int) - 1) = (ps.length : Int) - 1 := IntWalk.i64_in _ (by omega)
      have hz3 : ((ps.length : Int) - 1).toNat = ps.length - 1 := by omega
      have pHR := Lib.hid (pHR.out.below rHB.out)
      rcases HE6.out with h6 | ⟨h6, h6'⟩
      · have h6b : (st == 0) = true := beq_iff_eq.mpr h6
        rcases HE5.out with h5 | ⟨h5, h5'⟩
        · rw [pHO.out] at h5
          subst h5
          clear h6
          go_wp2_with fail
          go_ret
          exact ⟨rfl, hbw⟩
        · skip
          have plen := growth_len h5
          rw [pHL.out] at plen
          subst plen
          obtain ⟨pb, pq, rfl, pc⟩ := growth_row (o := 0) (oo := 0) pHR.out h5 (by rw [growL_len]; omega)
          have p1 := growC pc (show ps.length - 1 < ps.length by omega)
          rw [show ps.length - 1 + 1 = ps.length by omega] at p1
          rw [pHO.out] at h5
          subst h5
          clear pc
          generalize massL ps q st ps.length = mp at *
          clear h6
          go_wp2_with fail
          go_ret
          exact ⟨rfl, hbw⟩
      · by_cases h6b : st = 0
        · have h6b : (st == 0) = true := beq_iff_eq.mpr h6b
          clear h6 h6'
          rcases HE5.out with h5 | ⟨h5, h5'⟩
          · rw [pHO.out] at h5
            subst h5
            go_wp2_with fail
            go_ret
            exact ⟨rfl, hbw⟩
          · skip
            have plen := growth_len h5
            rw [pHL.out] at plen
            subst plen
            obtain ⟨pb, pq, rfl, pc⟩ := growth_row (o := 0) (oo := 0) pHR.out h5 (by rw [growL_len]; omega)
            have p1 := growC pc (show ps.length - 1 < ps.length by omega)
            rw [show ps.length - 1 + 1 = ps.length by omega] at p1
            rw [pHO.out] at h5
            subst h5
            clear pc
            generalize massL ps q st ps.length = mp at *
            go_wp2_with fail
            go_ret
            exact ⟨rfl, hbw⟩
        · have h6b : (st == 0) = false := beq_eq_false_iff_ne.mpr h6b
          have rlen := growth_len h6
          rw [rHL.out] at rlen
          subst rlen
          obtain ⟨rb, rq, rfl, rc⟩ := growth_row (o := 0) (oo := 0) rHR.out h6 (by rw [growL_len]; omega)
          have r1 := growC rc (show ps.length - 1 < ps.length by omega)
          rw [show ps.length - 1 + 1 = ps.length by omega] at r1
          rw [rHO.out] at h6
          subst h6
          clear rc
          generalize massL ps q (st - 1) ps.length = mr at *
          rcases HE5.out with h5 | ⟨h5, h5'⟩
          · rw [pHO.out] at h5
            subst h5
            go_wp2_with fail
            go_ret
            exact ⟨rfl, hbw⟩
          · skip
            have plen := growth_len h5
            rw [pHL.out] at plen
            subst plen
            obtain ⟨pb, pq, rfl, pc⟩ := growth_row (o := 0) (oo := 0) pHR.out h5 (by rw [growL_len]; omega)
            have p1 := growC pc (show ps.length - 1 < ps.length by omega)
            rw [show ps.length - 1 + 1 = ps.length by omega] at p1
            rw [pHO.out] at h5
            subst h5
            clear pc
            generalize massL ps q st ps.length = mp at *
            go_wp2_with fail
            go_ret
            exact ⟨rfl, hbw⟩
  · have ho' : (so == 0) = false := beq_eq_false_iff_ne.mpr ho
    have h0 : st = 0 := by rw [← hst]; exact ls_no (by rw [hso]; exact ho)
    subst h0
    clear hst hso ho
    go_wp2_with fail
    go_ret
    exact ⟨rfl, hbw⟩
end Go.Proofs.Ytcjalooaikfkbaa
