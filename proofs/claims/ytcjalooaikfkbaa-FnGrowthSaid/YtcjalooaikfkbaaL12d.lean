/- Chapter 12: where most is taken up. -/
import Derived.Test.YtcjalooaikfkbaaL12c
namespace Go.Proofs.Ytcjalooaikfkbaa
set_option linter.unusedSimpArgs false
set_option linter.unusedVariables false
open Go.RowKit
set_option maxHeartbeats 400000
set_option maxRecDepth 100000
theorem growC {xs : List SPart} {s t : Int} {n k b o : Nat} {w : World} (h : ArgC intc 1 w b o (growL xs s t n)) (hk : k < n) : w.cell? ⟨b, o + k, none⟩ = some (.int .i64 (massL xs s t (k + 1))) := by
  have := h.2 k (by rw [growL_len]; exact hk) 0 (.int .i64 (massL xs s t (k + 1))) (by rw [growL_at]; rfl)
  rwa [Nat.mul_one, Nat.add_zero] at this
theorem LargestMass_any (xs : List SPart) (b c : Nat) (t s : Int) (w : World) (A : Arr SPart.cells 4 w b xs) (hn : xs.length ≤ 1048576) :
    Calls Try.prog 17 #[.slice (some ⟨b, 0, none⟩) xs.length c, .int .i64 t, .int .i64 s] w fun e w' => e = .returned (.tuple #[.int .i64 (lmRes xs t s).1, .int .i64 (lmRes xs t s).2.1, .int .i64 (lmRes xs t s).2.2]) ∧ Below w.heap.size w w' := by
  have HA := Lib.hid A
  obtain ⟨gc, hgc⟩ : ∃ gc, gcode xs t s = gc := ⟨_, rfl⟩
  have HGC := Lib.hid hgc
  by_cases h0 : gc = 0
  · subst h0
    obtain ⟨hv, ht0, ht1, hs0, hs1⟩ := gcode_0 hgc
    have hga := grow_all hv hs0 hs1 ht0 ht1
    have HV := Lib.hid hv
    have hlen := vlPart_len hv
    clear hgc hv A
    by_cases hz : xs.length = 0
    · have hz1 : ((xs.length : Int) == 0) = true := beq_iff_eq.mpr (by omega)
      have HZ := Lib.hid hz
      clear hz hga
      go_enter Try.func17, Try.ntmps17
      go_wp2_with fail
      refine (Calls.intIs HGC.out (growthCode_any xs b c t s _ HA.out hn)).mono ?_
      rintro e w1 ⟨rfl, hb1⟩
      go_wp2
      go_ret3
      exact ⟨by rw [lmRes_3 HGC.out HZ.out]; rfl, hb1⟩
    · have hz1 : ((xs.length : Int) == 0) = false := beq_eq_false_iff_ne.mpr (by omega)
      have HZ := Lib.hid hz
      have hz2 : 0 < xs.length := by omega
      have hglp : 0 < (growL xs s t xs.length).length := by rw [growL_len]; exact hz2
      have HGP := Lib.hid hglp
      clear hz hglp
      by_cases hmax : massL xs s t xs.length ≤ 100000000
      · rw [decide_eq_true hmax] at hga
        have HGA := Lib.hid hga
        have HMX := Lib.hid hmax
        clear hga hmax
        go_enter Try.func17, Try.ntmps17
        go_wp2_with fail
        refine (Calls.intIs HGC.out (growthCode_any xs b c t s _ HA.out hn)).mono ?_
        rintro e w1 ⟨rfl, hb1⟩
        go_wp2_with fail
        refine (growth_any xs b c t s _ (HA.out.below hb1) HV.out ht0 ht1 hs0 hs1).mono ?_
        rintro e w2 ⟨⟨v, rfl, R⟩, hb2⟩
        obtain ⟨D, d, rfl, hS⟩ := R.form (fun _ => rfl)
        have hbt := Bel.trans hb1 hb2
        have HS := Lib.hid hS
        simp only [growL_len]
        clear hb1 hb2 R hS
        go_wp2_with fail
        have haw := allWithinA_any (growL xs s t xs.length) D d 0 100000000 w2 HS.out (by rw [growL_len]; exact hn)
        rw [growL_len] at haw
        refine (Calls.boolIs HGA.out haw).mono ?_
        rintro e w3 ⟨rfl, hb3⟩
        have hbt := Bel.trans hbt hb3
        obtain ⟨b2, o2, rfl, hc⟩ := (HS.out.below hb3) HGP.out
        have HC := Lib.hid hc
        have d0 := growC hc hz2
        rw [Nat.add_zero, Nat.zero_add] at d0
        have hb1 := mass_bd HV.out hs0 hs1 ht0 1
        clear hb3 haw
        go_wp2_with fail
        go_quiet (fail)
        go_wp2_with fail
        clear d0
        -- 1 slots, 2 world, 3 body of a round
        have hbb := hc.1
        go_loopw [11, 12, 13] (fun be mo i wr => ∃ (k m : Nat) (v : Int), 1 ≤ k ∧ k ≤ xs.length ∧ m < k ∧ i = .int .i64 k ∧ be = .int .i64 m ∧ mo = .int .i64 v ∧ lmTo xs s t k = m ∧ inc xs s t m = v ∧ Below w3.heap.size w3 wr) (fun _ _ i wr => xs.length - (intOf i).toNat)
        case atStart => exact ⟨1, 0, _, by omega, by omega, by omega, rfl, rfl, rfl, lmTo_1 xs s t, (by rw [inc]; rfl), (by repeat (first | (with_reducible assumption) | (with_reducible exact Below.refl _ _) | (with_reducible refine Bel.alloc ?_ _) | (with_reducible refine Below.drew ?_) | (with_reducible refine Bel.drewN ?_ _) | (with_reducible refine Bel.setCell ?_ (by (try simp) <;> omega) _) | (with_reducible refine Bel.trans ?_ (by assumption))))⟩
        case round =>
          obtain ⟨k, m, v, hk1, hk, hmk, rfl, rfl, rfl, hlm, hiv, hbel⟩ := hrel
          have HLM := Lib.hid hlm
          have HIV := Lib.hid hiv
          clear hlm hiv
          by_cases hlt : k < xs.length
          · have hz1 : (1 : Int) ≤ (k : Int) := by omega
            have hz2 : IntKind.i64.wrap ((k : Int) - 1) = (k : Int) - 1 := IntWalk.i64_in _ (by omega)
            have hz3 : ((k : Int) - 1).toNat = k - 1 := by omega
            have HC2 := HC.out.below hbel hbb
            have d0 := growC HC2 hlt
            have d1 := growC HC2 (show k - 1 < xs.length by omega)
            have hkk : k - 1 + 1 = k := by omega
            rw [hkk] at d1
            have hb1 := mass_bd HV.out hs0 hs1 ht0 (k + 1)
            have hb2 := mass_bd HV.out hs0 hs1 ht0 k
            obtain ⟨p, hp⟩ : ∃ p, massL xs s t (k + 1) = p := ⟨_, rfl⟩
            obtain ⟨q, hq⟩ : ∃ q, massL xs s t k = q := ⟨_, rfl⟩
            have hi : inc xs s t k = p - q := by rw [inc, hp, hq]
            rw [hp] at d0 hb1
            rw [hq] at d1 hb2
            have HI := Lib.hid hi
            clear hp hq hi hkk HC2
            by_cases hpq : v < p - q
            · skip
              skip
              go_wp2_with fail
              go_quiet (fail)
              go_wp2
              go_roundw
              case rel => exact ⟨k + 1, k, p - q, by omega, by omega, by omega, by go_num, rfl, rfl, lm_yes HLM.out (by rw [HIV.out, HI.out]; exact hpq), HI.out, (by repeat (first | (with_reducible assumption) | (with_reducible exact Below.refl _ _) | (with_reducible refine Bel.alloc ?_ _) | (with_reducible refine Below.drew ?_) | (with_reducible refine Bel.drewN ?_ _) | (with_reducible refine Bel.setCell ?_ (by (try simp) <;> omega) _) | (with_reducible refine Bel.trans ?_ (by assumption))))⟩
              case measure => simp [intOf]; omega
            · skip
              skip
              go_wp2_with fail
              go_quiet (fail)
              go_wp2
              go_roundw
              case rel => exact ⟨k + 1, m, v, by omega, by omega, by omega, by go_num, rfl, rfl, lm_no HLM.out (by rw [HIV.out, HI.out]; omega), HIV.out, (by repeat (first | (with_reducible assumption) | (with_reducible exact Below.refl _ _) | (with_reducible refine Bel.alloc ?_ _) | (with_reducible refine Below.drew ?_) | (with_reducible refine Bel.drewN ?_ _) | (with_reducible refine Bel.setCell ?_ (by (try simp) <;> omega) _) | (with_reducible refine Bel.trans ?_ (by assumption))))⟩
              case measure => simp [intOf]; omega
          · have hke : k = xs.length := by omega
            have hlm := HLM.out
            rw [hke] at hlm
            have HLE := Lib.hid hlm
            have hex : decide ((k : Int) < (xs.length : Int)) = false := decide_eq_false (by omega)
            clear hlm hke
            go_wp2
            go_ret3
            exact ⟨by rw [lmRes_0 HGC.out HZ.out (by have := HMX.out; omega) HLE.out, HIV.out]; rfl, (by repeat (first | (with_reducible assumption) | (with_reducible exact Below.refl _ _) | (with_reducible refine Bel.alloc ?_ _) | (with_reducible refine Below.drew ?_) | (with_reducible refine Bel.drewN ?_ _) | (with_reducible refine Bel.setCell ?_ (by (try simp) <;> omega) _) | (with_reducible refine Bel.trans ?_ (by assumption))))⟩
      · rw [decide_eq_false hmax] at hga
        have HGA := Lib.hid hga
        have HMX := Lib.hid hmax
        clear hga hmax
        go_enter Try.func17, Try.ntmps17
        go_wp2_with fail
        refine (Calls.intIs HGC.out (growthCode_any xs b c t s _ HA.out hn)).mono ?_
        rintro e w1 ⟨rfl, hb1⟩
        go_wp2_with fail
        refine (growth_any xs b c t s _ (HA.out.below hb1) HV.out ht0 ht1 hs0 hs1).mono ?_
        rintro e w2 ⟨⟨v, rfl, R⟩, hb2⟩
        obtain ⟨D, d, rfl, hS⟩ := R.form (fun _ => rfl)
        have hbt := Bel.trans hb1 hb2
        have HS := Lib.hid hS
        simp only [growL_len]
        clear hb1 hb2 R hS
        go_wp2_with fail
        have haw := allWithinA_any (growL xs s t xs.length) D d 0 100000000 w2 HS.out (by rw [growL_len]; exact hn)
        rw [growL_len] at haw
        refine (Calls.boolIs HGA.out haw).mono ?_
        rintro e w3 ⟨rfl, hb3⟩
        have hbt := Bel.trans hbt hb3
        clear haw hb3
        go_wp2
        go_ret3
        exact ⟨by rw [lmRes_6 HGC.out HZ.out (by have := HMX.out; omega)]; rfl, hbt⟩
  · have hne : (gc != 0) = true := by simp [h0]
    have H0 := Lib.hid h0
    clear hgc h0 A
    go_enter Try.func17, Try.ntmps17
    go_wp2_with fail
    refine (Calls.intIs HGC.out (growthCode_any xs b c t s _ HA.out hn)).mono ?_
    rintro e w1 ⟨rfl, hb1⟩
    go_wp2
    go_ret3
    exact ⟨by rw [lmRes_c HGC.out H0.out]; rfl, hb1⟩
end Go.Proofs.Ytcjalooaikfkbaa
