/- FnVerification: for every input the law answers true. No condition. -/
import Derived.Test.YtcjalooaikfkbaaL20y
import Derived.Test.YtcjalooaikfkbaaL20w
import Derived.Test.YtcjalooaikfkbaaLawB
import Derived.Test.YtcjalooaikfkbaaRowU
import Derived.Deep.CutRange
namespace Go.Proofs.Ytcjalooaikfkbaa
set_option linter.unusedSimpArgs false
set_option linter.unusedVariables false
open Go.RowKit
set_option maxHeartbeats 3200000
theorem absI_max (n : Int) : absI n = max n (-n) := by unfold absI; split <;> omega
theorem own_args {ti : TypeId} {w : World} {g : Nat} {l : List Int} (h : Own intc 1 ti w g l) : ArgS intc 1 w (some ⟨g, 0, none⟩) l := fun _ =>
  ⟨g, 0, rfl, h.arr.1, fun i hi j v hv => by rw [Nat.zero_add]; exact h.arr.2 i hi j v hv⟩
theorem prod_share {a b : Int} (h1 : 0 ≤ a) (h2 : a ≤ 1000) (h3 : 0 ≤ b) (h4 : b ≤ 64) : 0 ≤ a * b ∧ a * b ≤ 64000 :=
  ⟨Int.mul_nonneg h1 h3, Int.le_trans (Int.mul_le_mul_of_nonneg_right h2 h3) (by omega)⟩
set_option maxRecDepth 100000 in
theorem lawFnVerification (A1 : Option Addr) (c1 : Nat) (xs1 : List Int) (A2 : Option Addr) (c2 : Nat) (xs2 : List Int) (w : World) (h1 : Bytes9 w w.heap.size A1 xs1.length) (k1 : xs1.length ≤ c1 ∧ c1 ≤ 9223372036854775807)
    (h2 : Bytes9 w w.heap.size A2 xs2.length) (k2 : xs2.length ≤ c2 ∧ c2 ≤ 9223372036854775807) :
    Calls Try.prog 5 #[.slice A1 xs1.length c1, .slice A2 xs2.length c2] w fun e w' => e = .returned (.bool true) ∧ Below w.heap.size w w' := by
  generalize xs1.length = n1 at *
  generalize xs2.length = n2 at *
  obtain ⟨k1, k1'⟩ := k1
  obtain ⟨k2, k2'⟩ := k2
  by_cases hl1 : (1048576 : Int) < (n1 : Int)
  · go_enter Try.func5, Try.ntmps5
    go_wp2_with (go_at_call 7; refine (b10LongS_any _ _ _ _).mono ?_; rintro e w' ⟨rfl, rfl⟩)
    go_ret
    exact ⟨rfl, (by repeat (first | (with_reducible assumption) | (with_reducible exact Below.refl _ _) | (with_reducible refine Bel.alloc ?_ _) | (with_reducible refine Below.drew ?_) | (with_reducible refine Bel.drewN ?_ _) | (with_reducible refine Bel.setCell ?_ (by (try simp) <;> omega) _) | (with_reducible refine Bel.trans ?_ (by assumption))))⟩
  by_cases hl2 : (1048576 : Int) < (n2 : Int)
  · go_enter Try.func5, Try.ntmps5
    go_wp2_with (go_at_call 7; refine (b10LongS_any _ _ _ _).mono ?_; rintro e w' ⟨rfl, rfl⟩)
    go_ret
    exact ⟨rfl, (by repeat (first | (with_reducible assumption) | (with_reducible exact Below.refl _ _) | (with_reducible refine Bel.alloc ?_ _) | (with_reducible refine Below.drew ?_) | (with_reducible refine Bel.drewN ?_ _) | (with_reducible refine Bel.setCell ?_ (by (try simp) <;> omega) _) | (with_reducible refine Bel.trans ?_ (by assumption))))⟩
  have H1 := Lib.hid h1
  have H2 := Lib.hid h2
  clear h1 h2
  go_enter Try.func5, Try.ntmps5
  go_wp2_with (go_at_call 7; refine (b10LongS_any _ _ _ _).mono ?_; rintro e w' ⟨rfl, rfl⟩)
  refine (DrawHitShare_any A1 n1 c1 (by omega) k1 k1' H1.out).mono ?_
  rintro e w1 ⟨⟨xs, b, d, m, rfl, hx, hm0, hm1, A⟩, hb1⟩
  have hbw := hb1
  have HA := Lib.hid A
  clear hb1 A
  go_wp2_with fail
  refine (HitShare_any xs b d m _ HA.out (by omega)).mono ?_
  rintro e w2 ⟨rfl, hb⟩
  have HA := Lib.hid (HA.out.below hb)
  have hbw := Bel.trans hbw hb
  clear hb
  obtain ⟨hb0, hb1, hb2⟩ := hit_bd m xs
  obtain ⟨s1, hs1⟩ : ∃ s1, (hitRes m xs).1 = s1 := ⟨_, rfl⟩
  obtain ⟨o1, ho1⟩ : ∃ o1, (hitRes m xs).2 = o1 := ⟨_, rfl⟩
  rw [hs1, ho1]
  rw [hs1] at hb0 hb1 hb2
  rw [ho1] at hb2
  have HB2 := Lib.hid hb2
  clear hs1 ho1 hb2
  go_wp2_with fail
  refine (HitShare_any xs b d (m + 1) _ HA.out (by omega)).mono ?_
  rintro e w3 ⟨rfl, hb⟩
  have HA := Lib.hid (HA.out.below hb)
  have hbw := Bel.trans hbw hb
  clear hb
  obtain ⟨s2, hs2⟩ : ∃ s2, (hitRes (m + 1) xs).1 = s2 := ⟨_, rfl⟩
  obtain ⟨o2, ho2⟩ : ∃ o2, (hitRes (m + 1) xs).2 = o2 := ⟨_, rfl⟩
  rw [hs2, ho2]
  have hb2 := HB2.out
  rw [hs2, ho2] at hb2
  have HB2 := Lib.hid hb2
  clear hs2 ho2 hb2
  go_wp2_with fail
  refine (TableOf_any xs b d _ HA.out (by omega)).mono ?_
  rintro e w4 ⟨⟨v, rfl, R⟩, hb⟩
  have HA := Lib.hid (HA.out.below hb)
  have hbw := Bel.trans hbw hb
  clear hb
  obtain ⟨D, c, rfl⟩ := R.form
  have htop : w4.heap.size ≤ w4.heap.size := Nat.le_refl _
  obtain ⟨l1, hl1'⟩ : ∃ l1, (tbRes xs).1.length = l1 := ⟨_, rfl⟩
  obtain ⟨oc, hoc⟩ : ∃ oc, (tbRes xs).2 = oc := ⟨_, rfl⟩
  rw [hl1'] at R ⊢
  rw [hoc]
  have HR := Lib.hid R
  have HL1 := Lib.hid hl1'
  have HOC := Lib.hid hoc
  clear R hl1' hoc
  go_upto_region 7 with fail
  go_cut [7, 8, 9, 10, 73] from 26 (fun _ _ _ _ v wx => v = .bool false ∧ wx = w4)
  case first =>
    have n1 : ¬ s1 < 0 := by omega
    have n2 : ¬ 1000 < s1 := by omega
    by_cases z1 : o1 = 0
    · by_cases z2 : o2 = 0
      · have n3 : ¬ s2 < s1 := by have := HB2.out z1 z2; omega
        subst z1
        subst z2
        clear HB2
        go_wp2_with fail
        go_meet
        exact ⟨rfl, rfl⟩
      · have b2 : (o2 == 0) = false := beq_eq_false_iff_ne.mpr z2
        subst z1
        clear HB2 z2
        go_wp2_with fail
        go_meet
        exact ⟨rfl, rfl⟩
    · have b1 : (o1 == 0) = false := beq_eq_false_iff_ne.mpr z1
      clear HB2 z1
      go_wp2_with fail
      go_meet
      exact ⟨rfl, rfl⟩
  case rest =>
  obtain ⟨rfl, rfl⟩ := hcut
  clear HB2 hb0 hb1
  go_upto_if 75 with fail
  go_cut [5, 6, 11, 12, 13, 14, 15, 16, 17] from 26 (fun _ _ _ _ _ _ _ _ _ wx => Below w.heap.size w wx)
  case first =>
    by_cases ho : oc = 0
    · subst ho
      obtain ⟨hv, hlen, hget⟩ := tb_ok HOC.out
      rw [HL1.out] at hlen
      subst hlen
      have h64 := vlVerified_len hv
      have hR := RowF.congr HR.out (C' := tabRow xs xs.length) hget
      have HRT := Lib.hid hR
      have HV := Lib.hid hv
      clear hv hget hR HR HL1 HOC
      simp only [beq_self_eq_true]
      go_wp2_with fail
      go_loopw [13, 14, 15] (fun s t i wr => ∃ k : Nat, k ≤ 5 ∧ i = .int .i64 k ∧ s = .int .i64 (tabS xs k) ∧ t = .int .i64 (tabH xs k) ∧ Below wc.heap.size wc wr) (fun _ _ i wr => 5 - (intOf i).toNat)
      case atStart => exact ⟨0, by omega, rfl, rfl, rfl, Below.refl _ _⟩
      case round =>
        obtain ⟨k, hk, rfl, rfl, rfl, hb5⟩ := hrel
        have hbd := tab_bd h64 k hk
        by_cases hlt : k < 5
        · obtain ⟨bb, oo, g, rfl, hbb, hc, hO, hg1, hg2, -⟩ := RowF.at (by decide) (HRT.out.below hb5) hlt
          rw [tabRow_len] at hc
          have hrb := tab_row_bd h64 k
          have hsr := sum_row xs k
          have hS : Hid (tabS xs (k + 1) = tabS xs k + sumL id (tabRow xs xs.length k) 5) := Lib.hid (by rw [tabS, tabRow_len])
          have hH : Hid (tabH xs (k + 1) = tabH xs k + cTS xs xs.length k k) := Lib.hid rfl
          have hbd1 := tab_bd h64 (k + 1) (by omega)
          rw [hS.out, hH.out] at hbd1
          have a5 := cTS_bd xs xs.length k k
          have hcc := hO.arr.2 k (by rw [tabRow_len]; omega) 0 (.int .i64 (cTS xs xs.length k k)) (by simp [intc, tabRow])
          rw [Nat.mul_one, Nat.add_zero] at hcc
          have HSUM : Hid (∀ w', Below wr.heap.size wr w' → Calls Try.prog 23 #[.slice (some ⟨g, 0, none⟩) 5 5] w' fun e w'' => e = .returned (.int .i64 (sumL id (tabRow xs xs.length k) 5)) ∧ Below w'.heap.size w' w'') := Lib.hid fun w' hb => by
            have := b10Sum_any (c := 5) (own_args (hO.of_same (hb.block g hO.arr.1))) (by rw [tabRow_len]; omega) hrb
            rwa [tabRow_len] at this
          have HC := Lib.hid hc
          have HCC := Lib.hid hcc
          have hbl := hO.arr.1
          clear hrb hsr hO hcc
          obtain ⟨sm, hsm⟩ : ∃ sm, sumL id (tabRow xs xs.length k) 5 = sm := ⟨_, rfl⟩
          obtain ⟨ch, hch⟩ : ∃ ch, cTS xs xs.length k k = ch := ⟨_, rfl⟩
          rw [hsm] at HSUM hS hbd1
          rw [hch] at HCC hH hbd1 a5
          clear hsm hch
          obtain ⟨ts, hts⟩ : ∃ ts, tabS xs k = ts := ⟨_, rfl⟩
          obtain ⟨th, hth⟩ : ∃ th, tabH xs k = th := ⟨_, rfl⟩
          rw [hts] at hS hbd hbd1 ⊢
          rw [hth] at hH hbd hbd1 ⊢
          clear hts hth
          go_wp2_with fail
          refine (HSUM.out _ (Below.refl _ _)).mono ?_
          rintro e w6 ⟨rfl, hb6⟩
          have hc := (hb6.cell (p := ⟨bb, oo + k, none⟩) hbb).trans HC.out
          have hcc := (hb6.cell (p := ⟨g, k, none⟩) hbl).trans HCC.out
          have hb5 := Bel.trans hb5 hb6
          clear hb6 HC HCC HSUM
          go_wp2
          go_roundw
          case rel => exact ⟨k + 1, by omega, by go_num, by rw [hS.out] <;> go_num, by rw [hH.out] <;> go_num, hb5⟩
          case measure => simp [intOf]; omega
        · obtain rfl : k = 5 := by omega
          have HA := Lib.hid (HA.out.below hb5)
          have hbw := Bel.trans hbw hb5
          rw [tab_S HV.out]
          have hlaw := tab_law (xs := xs)
          obtain ⟨b0, b1, -⟩ := hit_bd 0 xs
          obtain ⟨th, hth⟩ : ∃ th, tabH xs 5 = th := ⟨_, rfl⟩
          rw [hth] at hbd hlaw ⊢
          clear hb5 hth
          have hbd' := hbd.2.2
          clear hbd
          go_wp2_with fail
          refine (HitShare_any xs b d 0 _ HA.out (by omega)).mono ?_
          rintro e w6 ⟨rfl, hb⟩
          have hbw := Bel.trans hbw hb
          clear hb
          obtain ⟨s3, hs3⟩ : ∃ s3, (hitRes 0 xs).1 = s3 := ⟨_, rfl⟩
          obtain ⟨o3, ho3⟩ : ∃ o3, (hitRes 0 xs).2 = o3 := ⟨_, rfl⟩
          rw [hs3, ho3] at hlaw ⊢
          rw [hs3] at b0 b1
          clear hs3 ho3
          by_cases z3 : o3 = 0
          · have hl := hlaw z3
            subst z3
            rw [← absI_max] at hl
            have hp := prod_share (a := s3) (b := (xs.length : Int)) b0 b1 (by omega) (by omega)
            obtain ⟨p, hpp⟩ : ∃ p, s3 * (xs.length : Int) = p := ⟨_, rfl⟩
            rw [hpp] at hl hp
            have hw : Hid (IntKind.i64.wrap (s3 * (xs.length : Int)) = p) := Lib.hid (by rw [hpp]; exact IntWalk.i64_in _ (by omega))
            have HPP := Lib.hid hpp
            obtain ⟨av, hav⟩ : ∃ av, absI (p - 1000 * th) = av := ⟨_, rfl⟩
            have ha := absI_max (p - 1000 * th)
            rw [hav] at hl ha
            have hab : 0 ≤ av ∧ av ≤ 1000000 := by omega
            have HAV := Lib.hid hav
            clear hlaw hpp hav ha
            have hp' := hp
            rw [← HPP.out] at hp'
            go_wp2_with fail
            rw [HPP.out]
            refine (b10Abs_any _ _ (by omega) (by omega)).mono ?_
            rintro e w' ⟨rfl, rfl⟩
            rw [HAV.out]
            go_wp2_with fail
            go_meet
            exact hbw
          · have b3 : (o3 == 0) = false := beq_eq_false_iff_ne.mpr z3
            clear hlaw z3
            go_wp2_with fail
            go_meet
            exact hbw
    · have h0 : (oc == 0) = false := beq_eq_false_iff_ne.mpr ho
      clear ho
      go_wp2_with fail
      go_meet
      exact hbw
  case rest =>
  have hbw := hcut
  clear hcut HA HR HL1 HOC
  go_wp2_with fail
  refine (DrawMissedHigh_any A2 n2 c2 (by omega) k2 k2' (H2.out.to hbw)).mono ?_
  rintro e w5 ⟨⟨ys, b2, d2, l, rfl, hy, hl0, hl1'', A⟩, hb⟩
  have hbw := Bel.trans hbw hb
  have HA := Lib.hid A
  clear hb A
  go_wp2_with fail
  refine (MissedHigh_any ys b2 d2 l _ HA.out (by omega)).mono ?_
  rintro e w6 ⟨⟨v, rfl, R⟩, hb⟩
  obtain ⟨D6, c6, rfl, hS⟩ := R.form (fun _ => rfl)
  have HA := Lib.hid (HA.out.below hb)
  have hbw := Bel.trans hbw hb
  have hdl := daysRes_len (qMissed l) l ys
  have HS := Lib.hid hS
  clear hb R hS
  go_wp2_with fail
  refine (FalseHigh_any ys b2 d2 l _ HA.out (by omega)).mono ?_
  rintro e w7 ⟨⟨v, rfl, R⟩, hb⟩
  obtain ⟨D7, c7, rfl, hS⟩ := R.form (fun _ => rfl)
  have HA := Lib.hid (HA.out.below hb)
  have HS := Lib.hid (HS.out.below hb)
  have hbw := Bel.trans hbw hb
  have hdl2 := daysRes_len (qFalse l) l ys
  have HS7 := Lib.hid hS
  clear hb R hS
  rw [days_codes (qFalse l) (qMissed l) l ys]
  rcases days_cases (qMissed l) l ys with ⟨m0, mv, ml⟩ | ⟨m1, ml⟩
  · rcases days_cases (qFalse l) l ys with ⟨q0, -, ql⟩ | ⟨q1, ql⟩
    · rw [m0]
      rw [ml] at HS hdl ⊢
      rw [ql] at HS7 hdl2 ⊢
      have HV := Lib.hid mv
      clear m0 mv ml q0 ql
      have HM1 : Hid (∀ k (hk : k < ys.length), decide (ys[k].Day ∈ daysTo (qMissed l) ys ys.length) = qMissed l ys[k]) := Lib.hid (fun k hk => by
        cases hq : qMissed l ys[k]
        · exact decide_eq_false (fun h => by rw [(mem_days HV.out hk).1 h] at hq; cases hq)
        · exact decide_eq_true ((mem_days HV.out hk).2 hq))
      have HM2 : Hid (∀ k (hk : k < ys.length), decide (ys[k].Day ∈ daysTo (qFalse l) ys ys.length) = qFalse l ys[k]) := Lib.hid (fun k hk => by
        cases hq : qFalse l ys[k]
        · exact decide_eq_false (fun h => by rw [(mem_days HV.out hk).1 h] at hq; cases hq)
        · exact decide_eq_true ((mem_days HV.out hk).2 hq))
      generalize daysTo (qMissed l) ys ys.length = L1 at *
      generalize daysTo (qFalse l) ys ys.length = L2 at *
      go_wp2_with fail
      go_loopw [24, 25] (fun i _ wr => ∃ k : Nat, k ≤ ys.length ∧ i = .int .i64 k ∧ Below w7.heap.size w7 wr) (fun i _ wr => ys.length - (intOf i).toNat)
      case atStart => exact ⟨0, by omega, rfl, Below.refl _ _⟩
      case round =>
        obtain ⟨k, hk, rfl, hb7⟩ := hrel
        by_cases hlt : k < ys.length
        · obtain ⟨p0, p1, p2⟩ := SVerified.elem (HA.out.below hb7) hlt
          have HD1 := Lib.hid (HM1.out k hlt)
          have HD2 := Lib.hid (HM2.out k hlt)
          generalize ys[k] = x at *
          go_upto_region 35 with fail
          refine wp_box_out ?_
          intro W8 hb8 B8
          have hb78 := Bel.trans hb7 hb8
          clear p0 p1 p2
          have HC1 : Hid (∀ z : Past W8, Calls Try.prog 28 #[.slice D6 L1.length c6, .int .i64 x.Day] z.w fun e w' => e = .returned (.bool (decide (x.Day ∈ L1))) ∧ Below z.w.heap.size z.w w') := Lib.hid fun z => b10Has_any ((HS.out.below hb78).below z.h) _ (by omega)
          have HC2 : Hid (∀ z : Past W8, Calls Try.prog 28 #[.slice D7 L2.length c7, .int .i64 x.Day] z.w fun e w' => e = .returned (.bool (decide (x.Day ∈ L2))) ∧ Below z.w.heap.size z.w w') := Lib.hid fun z => b10Has_any ((HS7.out.below hb78).below z.h) _ (by omega)
          have p0 := Past.box B8 (j := 0) (v := .int .i64 x.Day) rfl
          have p1 := Past.box B8 (j := 1) (v := .int .i64 x.Told) rfl
          have p2 := Past.box B8 (j := 2) (v := .int .i64 x.Seen) rfl
          clear B8
          by_cases s1 : l ≤ x.Seen
          · by_cases t1 : l ≤ x.Told
            · have HE1 : Hid (decide (x.Day ∈ L1) = false) := Lib.hid (by rw [HD1.out]; simp [qMissed] <;> omega)
              have HE2 : Hid (decide (x.Day ∈ L2) = false) := Lib.hid (by rw [HD2.out]; simp [qFalse] <;> omega)
              have b1 : decide (l ≤ x.Seen) = true := by simp <;> omega
              have b2 : decide (x.Seen < l) = false := by simp <;> omega
              have b3 : decide (l ≤ x.Told) = true := by simp <;> omega
              have b4 : decide (x.Told < l) = false := by simp <;> omega
              clear s1 t1
              go_wp2_with fail
              refine wp_region_past (by kernel_rfl) (by kernel_rfl) ?_
              repeat (go_big_quiet_step ((go_at_call 28; first | (with_reducible exact Past.callB _ HE1.out (HC1.out _)) | (with_reducible exact Past.callB _ HE2.out (HC2.out _)))))
              refine wpQuiet_nil ?_
              intro W9 hw'
              obtain ⟨⟨W_, hb9⟩, hw''⟩ := hw'
              subst hw''
              have hb79 := Bel.trans hb78 hb9
              clear p0 p1 p2
              go_wp2
              go_roundw
              case rel => exact ⟨k + 1, by omega, by go_num, hb79⟩
              case measure => simp [intOf]; omega
            · have HE1 : Hid (decide (x.Day ∈ L1) = true) := Lib.hid (by rw [HD1.out]; simp [qMissed] <;> omega)
              have HE2 : Hid (decide (x.Day ∈ L2) = false) := Lib.hid (by rw [HD2.out]; simp [qFalse] <;> omega)
              have b1 : decide (l ≤ x.Seen) = true := by simp <;> omega
              have b2 : decide (x.Seen < l) = false := by simp <;> omega
              have b3 : decide (l ≤ x.Told) = false := by simp <;> omega
              have b4 : decide (x.Told < l) = true := by simp <;> omega
              clear s1 t1
              go_wp2_with fail
              refine wp_region_past (by kernel_rfl) (by kernel_rfl) ?_
              repeat (go_big_quiet_step ((go_at_call 28; first | (with_reducible exact Past.callB _ HE1.out (HC1.out _)) | (with_reducible exact Past.callB _ HE2.out (HC2.out _)))))
              refine wpQuiet_nil ?_
              intro W9 hw'
              obtain ⟨⟨W_, hb9⟩, hw''⟩ := hw'
              subst hw''
              have hb79 := Bel.trans hb78 hb9
              clear p0 p1 p2
              go_wp2
              go_roundw
              case rel => exact ⟨k + 1, by omega, by go_num, hb79⟩
              case measure => simp [intOf]; omega
          · by_cases t1 : l ≤ x.Told
            · have HE1 : Hid (decide (x.Day ∈ L1) = false) := Lib.hid (by rw [HD1.out]; simp [qMissed] <;> omega)
              have HE2 : Hid (decide (x.Day ∈ L2) = true) := Lib.hid (by rw [HD2.out]; simp [qFalse] <;> omega)
              have b1 : decide (l ≤ x.Seen) = false := by simp <;> omega
              have b2 : decide (x.Seen < l) = true := by simp <;> omega
              have b3 : decide (l ≤ x.Told) = true := by simp <;> omega
              have b4 : decide (x.Told < l) = false := by simp <;> omega
              clear s1 t1
              go_wp2_with fail
              refine wp_region_past (by kernel_rfl) (by kernel_rfl) ?_
              repeat (go_big_quiet_step ((go_at_call 28; first | (with_reducible exact Past.callB _ HE1.out (HC1.out _)) | (with_reducible exact Past.callB _ HE2.out (HC2.out _)))))
              refine wpQuiet_nil ?_
              intro W9 hw'
              obtain ⟨⟨W_, hb9⟩, hw''⟩ := hw'
              subst hw''
              have hb79 := Bel.trans hb78 hb9
              clear p0 p1 p2
              go_wp2
              go_roundw
              case rel => exact ⟨k + 1, by omega, by go_num, hb79⟩
              case measure => simp [intOf]; omega
            · have HE1 : Hid (decide (x.Day ∈ L1) = false) := Lib.hid (by rw [HD1.out]; simp [qMissed] <;> omega)
              have HE2 : Hid (decide (x.Day ∈ L2) = false) := Lib.hid (by rw [HD2.out]; simp [qFalse] <;> omega)
              have b1 : decide (l ≤ x.Seen) = false := by simp <;> omega
              have b2 : decide (x.Seen < l) = true := by simp <;> omega
              have b3 : decide (l ≤ x.Told) = false := by simp <;> omega
              have b4 : decide (x.Told < l) = true := by simp <;> omega
              clear s1 t1
              go_wp2_with fail
              refine wp_region_past (by kernel_rfl) (by kernel_rfl) ?_
              repeat (go_big_quiet_step ((go_at_call 28; first | (with_reducible exact Past.callB _ HE1.out (HC1.out _)) | (with_reducible exact Past.callB _ HE2.out (HC2.out _)))))
              refine wpQuiet_nil ?_
              intro W9 hw'
              obtain ⟨⟨W_, hb9⟩, hw''⟩ := hw'
              subst hw''
              have hb79 := Bel.trans hb78 hb9
              clear p0 p1 p2
              go_wp2
              go_roundw
              case rel => exact ⟨k + 1, by omega, by go_num, hb79⟩
              case measure => simp [intOf]; omega
        · obtain rfl : k = ys.length := by omega
          go_wp2_with fail
          go_ret
          exact ⟨rfl, Bel.trans hbw hb7⟩
    · exact absurd (by rw [days_codes (qFalse l) (qMissed l) l ys]; exact m0) q1
  · rcases days_cases (qFalse l) l ys with ⟨q0, -, ql⟩ | ⟨q1, ql⟩
    · exact absurd (by rw [days_codes (qMissed l) (qFalse l) l ys]; exact q0) m1
    · have m1b : ((daysRes (qMissed l) l ys).2 == 0) = false := beq_eq_false_iff_ne.mpr m1
      rw [ml, ql]
      clear m1 q1 ml ql hdl hdl2 HS HS7
      generalize (daysRes (qMissed l) l ys).2 = mc at *
      go_wp2_with fail
      go_ret
      exact ⟨rfl, hbw⟩
end Go.Proofs.Ytcjalooaikfkbaa
