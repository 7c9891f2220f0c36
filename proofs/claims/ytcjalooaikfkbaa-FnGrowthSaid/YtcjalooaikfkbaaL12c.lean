/- Chapter 12: how a mass grows, where most is taken up: the walks. -/
import Derived.Test.YtcjalooaikfkbaaL12b
namespace Go.Proofs.Ytcjalooaikfkbaa
set_option linter.unusedSimpArgs false
set_option linter.unusedVariables false
open Go.RowKit
set_option maxHeartbeats 400000
set_option maxRecDepth 100000
theorem min_le {a b : Int} (h : a < b) : min a b = a := by omega
theorem min_ge {a b : Int} (h : ¬ a < b) : min a b = b := by omega
theorem divRoundB_any (a b : Int) (w : World) (hb : 0 < b) (hb2 : b ≤ 1000000000000000) (h1 : -1000000000000000 ≤ a) (h2 : a ≤ 1000000000000000) :
    Calls Try.prog 61 #[.int .i64 a, .int .i64 b] w fun e w' => e = .returned (.int .i64 (rdiv a b)) ∧ Below w.heap.size w w' :=
  (divRound_any a b w hb hb2 h1 h2).mono fun _ _ ⟨he, n, hn⟩ => ⟨he, hn ▸ Bel.drewN (Below.refl _ _) n⟩
theorem growth_any (xs : List SPart) (b c : Nat) (t s : Int) (w : World) (A : Arr SPart.cells 4 w b xs) (hv : vlPart xs = true) (ht0 : 0 ≤ t) (ht1 : t ≤ 100000000) (hs0 : 0 ≤ s) (hs1 : s ≤ 1000) :
    Calls Try.prog 52 #[.slice (some ⟨b, 0, none⟩) xs.length c, .int .i64 t, .int .i64 s] w fun e w' => (∃ v, e = .returned v ∧ Row intc 1 2 w' w.heap.size v (growL xs s t xs.length)) ∧ Below w.heap.size w w' := by
  have HA := Lib.hid A
  have hlen := vlPart_len hv
  have HV := Lib.hid hv
  clear A hv
  go_enter Try.func52, Try.ntmps52
  go_wp2_with fail
  go_loopw [1, 7, 13] (fun tt v i wr => ∃ (k : Nat) (m : Int), k ≤ xs.length ∧ i = .int .i64 k ∧ tt = .int .i64 m ∧ massL xs s t k = m ∧ Row intc 1 2 wr w.heap.size v (growL xs s t k) ∧ Below w.heap.size w wr) (fun _ _ i wr => xs.length - (intOf i).toNat)
  case atStart => exact ⟨0, t, by omega, rfl, rfl, rfl, Row.nil, Below.refl _ _⟩
  case round =>
    obtain ⟨k, m, hk, rfl, rfl, hm, hrow, hbel⟩ := hrel
    have hmb := mass_bd HV.out hs0 hs1 ht0 k
    rw [hm] at hmb
    have HM := Lib.hid hm
    have HR := Lib.hid hrow
    clear hrow hm
    by_cases hlt : k < xs.length
    · obtain ⟨e0, e1, e2, e3⟩ := SPart.elem (HA.out.below hbel) hlt
      have hok := vlPart_ok HV.out k hlt
      have hbd := okPart_bd hok
      obtain ⟨hv1, hv2, hv3⟩ := vol_bd hok
      unfold vol at hv3
      obtain ⟨v, hvv⟩ : ∃ v, rdiv (xs[k].Length * xs[k].Width * xs[k].Depth * xs[k].Density) 100000 = v := ⟨_, rfl⟩
      have hsl := slab_bd hok
      have hss := slabs_bd hok hs0 hs1
      have htk := taken_bd hok hs0 hs1
      have hst := mass_at hlt HM.out
      unfold taken at hst htk
      unfold slab vol at hsl hss hst htk
      rw [hvv] at hsl hss hst htk
      obtain ⟨q, hqq⟩ : ∃ q, rdiv (v * s) 1000 = q := ⟨_, rfl⟩
      rw [hqq] at hst htk
      have HVV := Lib.hid hvv
      have HQQ := Lib.hid hqq
      have HST := Lib.hid hst
      clear hok hvv hqq hst
      have hsz := hbel.size
      go_wp2_with fail
      refine calls_box_out ?_
      intro W hbw B
      refine (Calls.intIs HVV.out (divRoundB_any _ _ _ (by omega) (by omega) (by omega) (by omega))).mono ?_
      rintro e w2 ⟨rfl, hb2⟩
      have hbel := Bel.trans (Bel.trans hbel hbw) hb2
      have HR := Lib.hid ((HR.out.below hbw).below hb2)
      clear B e0 e1 e2 e3 hb2 hbw hv1 hv2 hv3
      go_wp2_with fail
      refine (Calls.intIs HQQ.out (divRoundB_any _ _ _ (by omega) (by omega) (by omega) (by omega))).mono ?_
      rintro e w3 ⟨rfl, hb2⟩
      have hbel := Bel.trans hbel hb2
      have HR := Lib.hid (HR.out.below hb2)
      have hsz := hbel.size
      have hgl := growL_len xs s t k
      have HGL := Lib.hid hgl
      have hgl2 : (growL xs s t k).length ≤ 24 := by omega
      clear hb2 hgl
      by_cases hmq : m < q
      · rw [min_ge (show ¬ q < m by omega)] at HST
        go_wp2_with (at_builtin; refine wpList_pushI rfl _ _ 38 rfl w.heap.size 2 Try.underlying38 (by kernel_rfl) u7 (growL xs s t k) (m + m) rfl HR.out 1 rfl (by omega) hsz ?_; intro v' w4 hr4 hg4 hb4)
        go_roundw
        case rel => exact ⟨k + 1, m + m, by omega, by go_num, rfl, HST.out, by rw [growL_snoc, HST.out]; exact hr4, hbel.trans hb4⟩
        case measure => simp [intOf]; omega
      · rw [show min q m = q by omega] at HST
        go_wp2_with (at_builtin; refine wpList_pushI rfl _ _ 38 rfl w.heap.size 2 Try.underlying38 (by kernel_rfl) u7 (growL xs s t k) (m + q) rfl HR.out 1 rfl (by omega) hsz ?_; intro v' w4 hr4 hg4 hb4)
        go_roundw
        case rel => exact ⟨k + 1, m + q, by omega, by go_num, rfl, HST.out, by rw [growL_snoc, HST.out]; exact hr4, hbel.trans hb4⟩
        case measure => simp [intOf]; omega
    · obtain rfl : k = xs.length := by omega
      go_wp2
      go_ret
      exact ⟨⟨_, rfl, HR.out⟩, hbel⟩
theorem GrowthOf_any (xs : List SPart) (b c : Nat) (t s : Int) (w : World) (A : Arr SPart.cells 4 w b xs) (hn : xs.length ≤ 1048576) :
    Calls Try.prog 16 #[.slice (some ⟨b, 0, none⟩) xs.length c, .int .i64 t, .int .i64 s] w fun e w' => (∃ v, e = .returned (.tuple #[v, .int .i64 (grRes xs t s).2]) ∧ Row intc 1 2 w' w.heap.size v (grRes xs t s).1) ∧ Below w.heap.size w w' := by
  have HA := Lib.hid A
  obtain ⟨gc, hgc⟩ : ∃ gc, gcode xs t s = gc := ⟨_, rfl⟩
  have HGC := Lib.hid hgc
  by_cases h0 : gc = 0
  · subst h0
    obtain ⟨hv, ht0, ht1, hs0, hs1⟩ := gcode_0 hgc
    have hga := grow_all hv hs0 hs1 ht0 ht1
    have HV := Lib.hid hv
    have hlen := vlPart_len hv
    have hgl := growL_len xs s t xs.length
    have hgl2 : (growL xs s t xs.length).length ≤ 24 := by omega
    clear hgc hv A hgl
    by_cases hmax : massL xs s t xs.length ≤ 100000000
    · rw [decide_eq_true hmax] at hga
      rw [grRes_0 HGC.out hmax]
      have HGA := Lib.hid hga
      clear hga hmax
      go_enter Try.func16, Try.ntmps16
      go_wp2_with fail
      refine (Calls.intIs HGC.out (growthCode_any xs b c t s _ HA.out hn)).mono ?_
      rintro e w1 ⟨rfl, hb1⟩
      go_wp2_with fail
      refine (growth_any xs b c t s _ (HA.out.below hb1) HV.out ht0 ht1 hs0 hs1).mono ?_
      rintro e w2 ⟨⟨v, rfl, R⟩, hb2⟩
      have R := R.lower hb1.size
      obtain ⟨D, d, rfl, hS⟩ := R.form (fun _ => rfl)
      have hbt := Bel.trans hb1 hb2
      have HRR := Lib.hid R
      have HS := Lib.hid hS
      clear hb1 hb2 R hS
      go_wp2_with fail
      refine (Calls.boolIs HGA.out (allWithinA_any _ D d 0 100000000 _ HS.out (by omega))).mono ?_
      rintro e w3 ⟨rfl, hb3⟩
      go_wp2
      go_ret2
      exact ⟨⟨_, rfl, HRR.out.below hb3⟩, Bel.trans hbt hb3⟩
    · rw [decide_eq_false hmax] at hga
      rw [grRes_6 HGC.out hmax]
      have HGA := Lib.hid hga
      clear hga hmax
      go_enter Try.func16, Try.ntmps16
      go_wp2_with fail
      refine (Calls.intIs HGC.out (growthCode_any xs b c t s _ HA.out hn)).mono ?_
      rintro e w1 ⟨rfl, hb1⟩
      go_wp2_with fail
      refine (growth_any xs b c t s _ (HA.out.below hb1) HV.out ht0 ht1 hs0 hs1).mono ?_
      rintro e w2 ⟨⟨v, rfl, R⟩, hb2⟩
      have R := R.lower hb1.size
      obtain ⟨D, d, rfl, hS⟩ := R.form (fun _ => rfl)
      have hbt := Bel.trans hb1 hb2
      have HS := Lib.hid hS
      clear hb1 hb2 R hS
      go_wp2_with fail
      refine (Calls.boolIs HGA.out (allWithinA_any _ D d 0 100000000 _ HS.out (by omega))).mono ?_
      rintro e w3 ⟨rfl, hb3⟩
      go_wp2
      go_ret2
      exact ⟨⟨_, rfl, Row.nil⟩, Bel.trans hbt hb3⟩
  · rw [grRes_c hgc h0]
    have hne : (gc != 0) = true := by simp [h0]
    clear hgc h0 A
    go_enter Try.func16, Try.ntmps16
    go_wp2_with fail
    refine (Calls.intIs HGC.out (growthCode_any xs b c t s _ HA.out hn)).mono ?_
    rintro e w1 ⟨rfl, hb1⟩
    go_wp2
    go_ret2
    exact ⟨⟨_, rfl, Row.nil⟩, hb1⟩
end Go.Proofs.Ytcjalooaikfkbaa
