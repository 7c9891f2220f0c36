/- Chapter 22: IsShotPlan and LastEnd: the walks. -/
import Derived.Test.YtocipeididkllaaL22e
namespace Go.Proofs.Ytocipeididkllaa
set_option linter.unusedSimpArgs false
set_option linter.unusedVariables false
open Go.RowKit
set_option maxHeartbeats 400000
set_option maxRecDepth 100000
theorem crewsOk_any (n : Int) (w : World) : Calls Try.prog 59 #[.int .i64 n] w fun e w' => e = .returned (.bool (inr 1 3 n)) ∧ w = w' := by
  go_enter Try.func59, Try.ntmps59
  go_wp2_with (go_at_call 55; refine (within_any _ _ _ _).mono ?_; rintro e w' ⟨rfl, rfl⟩)
  go_ret
  exact ⟨rfl, rfl⟩
def pws (xs : List SShot) (os : List Int) (n : Int) : List (Int × Int) := if askS xs os n = 0 then wsP (plV xs os n.toNat) else []
theorem pw_c {xs : List SShot} {os : List Int} {n c : Int} (h : askS xs os n = c) (hc : c ≠ 0) : pcode xs os n = c ∧ pws xs os n = [] := by rw [pcode, pws, h, if_neg hc, if_neg hc]; exact ⟨rfl, rfl⟩
theorem pw_6 {xs : List SShot} {os : List Int} {n : Nat} (h : askS xs os (n : Int) = 0) (hp : plV xs os n = none) : pcode xs os (n : Int) = 6 ∧ pws xs os (n : Int) = [] := by rw [pcode, pws, if_pos h, if_pos h, Int.toNat_natCast, hp]; exact ⟨rfl, rfl⟩
theorem pw_0 {xs : List SShot} {os : List Int} {n : Nat} {ws : List (Int × Int)} (h : askS xs os (n : Int) = 0) (hp : plV xs os n = some ws) : pcode xs os (n : Int) = 0 ∧ pws xs os (n : Int) = ws := by rw [pcode, pws, if_pos h, if_pos h, Int.toNat_natCast, hp]; exact ⟨rfl, rfl⟩
theorem askS_1 {xs : List SShot} {os : List Int} {n : Int} (h : vlShot xs = false) : askS xs os n = 1 := by rw [askS, h]; rfl
theorem askS_7 {xs : List SShot} {os : List Int} {n : Int} (h : vlShot xs = true) (h2 : ordOk xs.length os = false) : askS xs os n = 7 := by rw [askS, h, h2]; rfl
theorem askS_2 {xs : List SShot} {os : List Int} {n : Int} (h : vlShot xs = true) (h2 : ordOk xs.length os = true) (h3 : inr 1 3 n = false) : askS xs os n = 2 := by rw [askS, h, h2, h3]; rfl
theorem askS_0 {xs : List SShot} {os : List Int} {n : Int} (h : vlShot xs = true) (h2 : ordOk xs.length os = true) (h3 : inr 1 3 n = true) : askS xs os n = 0 := by rw [askS, h, h2, h3]; rfl
theorem planWorks_any (xs : List SShot) (os : List Int) (b c b2 c2 : Nat) (n : Int) (w : World) (A : Arr SShot.cells 5 w b xs) (A2 : Arr intc 1 w b2 os) (hn : xs.length ≤ 1048576) (hn2 : os.length ≤ 1048576) (hc2 : os.length ≤ c2) (hf : ∀ i (h : i < xs.length), xs[i].Id.size ≤ 9223372036854775807) :
    Calls Try.prog 36 #[.slice (some ⟨b, 0, none⟩) xs.length c, .slice (some ⟨b2, 0, none⟩) os.length c2, .int .i64 n] w fun e w' => (∃ v, e = .returned (.tuple #[v, .int .i64 (pcode xs os n)]) ∧ Row workc 2 68 w' w.heap.size v (pws xs os n)) ∧ Below w.heap.size w w' := by
  have HA := Lib.hid A
  have HA2 := Lib.hid A2
  have HF := Lib.hid hf
  clear A A2 hf
  cases hcr : inr 1 3 n
  · have HC := Lib.hid hcr
    clear hcr
    go_enter Try.func36, Try.ntmps36
    go_wp2_with (first | (go_at_call 40; refine (ValidShots_any xs b c _ HA.out hn HF.out).mono ?_; rintro e w1 ⟨rfl, hb1⟩) | (go_at_call 41; refine (orderOk_any xs.length os _ c b2 c2 _ (HA2.out.below hb1) hn hn2 hc2).mono ?_; rintro e w2 ⟨rfl, hb2⟩) | (go_at_call 59; refine (Calls.boolIs HC.out (crewsOk_any _ _)).mono ?_; rintro e w' ⟨rfl, rfl⟩))
    · go_ret2
      obtain ⟨e1, e2⟩ := pw_c (askS_1 (os := os) (n := n) (by first | assumption | exact not_f (by assumption) | exact not_t (by assumption))) (by omega)
      rw [e1, e2]
      exact ⟨⟨_, rfl, Row.nil⟩, hb1⟩
    · go_ret2
      obtain ⟨e1, e2⟩ := pw_c (askS_7 (n := n) (by first | assumption | exact not_f (by assumption) | exact not_t (by assumption)) (by first | assumption | exact not_f (by assumption) | exact not_t (by assumption))) (by omega)
      rw [e1, e2]
      exact ⟨⟨_, rfl, Row.nil⟩, Bel.trans hb1 hb2⟩
    · go_ret2
      obtain ⟨e1, e2⟩ := pw_c (askS_2 (n := n) (by first | assumption | exact not_f (by assumption) | exact not_t (by assumption)) (by first | assumption | exact not_f (by assumption) | exact not_t (by assumption)) HC.out) (by omega)
      rw [e1, e2]
      exact ⟨⟨_, rfl, Row.nil⟩, Bel.trans hb1 hb2⟩
  · obtain ⟨hc0, hc1⟩ := inr_bd' hcr
    obtain ⟨nn, rfl⟩ : ∃ nn : Nat, n = (nn : Int) := ⟨n.toNat, by omega⟩
    have HC := Lib.hid hcr
    clear hcr
    cases hp : plV xs os nn with
    | none =>
      have HP := Lib.hid hp
      have HW := Lib.hid (fun w A A2 hv ho => worksOf_any xs os b c b2 c2 nn w A A2 hn2 hv ho (by omega) (by omega))
      rw [hp] at HW
      rw [show okP (none : Option (List (Int × Int))) = false from rfl] at HW
      clear hp
      go_enter Try.func36, Try.ntmps36
      go_wp2_with (first | (go_at_call 40; refine (ValidShots_any xs b c _ HA.out hn HF.out).mono ?_; rintro e w1 ⟨rfl, hb1⟩) | (go_at_call 41; refine (orderOk_any xs.length os _ c b2 c2 _ (HA2.out.below hb1) hn hn2 hc2).mono ?_; rintro e w2 ⟨rfl, hb2⟩) | (go_at_call 59; refine (Calls.boolIs HC.out (crewsOk_any _ _)).mono ?_; rintro e w' ⟨rfl, rfl⟩) | (go_at_call 60; refine (HW.out _ (HA.out.below (Bel.trans hb1 hb2)) (HA2.out.below (Bel.trans hb1 hb2)) (by first | assumption | exact not_f (by assumption) | exact not_t (by assumption)) (by first | assumption | exact not_f (by assumption) | exact not_t (by assumption))).mono ?_; rintro e w3 ⟨⟨v, rfl, R⟩, hb3⟩; have HR := Lib.hid R; clear R))
      · go_ret2
        obtain ⟨e1, e2⟩ := pw_c (askS_1 (os := os) (n := (nn : Int)) (by first | assumption | exact not_f (by assumption) | exact not_t (by assumption))) (by omega)
        rw [e1, e2]
        exact ⟨⟨_, rfl, Row.nil⟩, hb1⟩
      · go_ret2
        obtain ⟨e1, e2⟩ := pw_c (askS_7 (n := (nn : Int)) (by first | assumption | exact not_f (by assumption) | exact not_t (by assumption)) (by first | assumption | exact not_f (by assumption) | exact not_t (by assumption))) (by omega)
        rw [e1, e2]
        exact ⟨⟨_, rfl, Row.nil⟩, Bel.trans hb1 hb2⟩
      · go_ret2
        obtain ⟨e1, e2⟩ := pw_6 (askS_0 (by first | assumption | exact not_f (by assumption) | exact not_t (by assumption)) (by first | assumption | exact not_f (by assumption) | exact not_t (by assumption)) HC.out) HP.out
        rw [e1, e2]
        exact ⟨⟨_, rfl, Row.nil⟩, Bel.trans (Bel.trans hb1 hb2) hb3⟩
    | some ws =>
      have HP := Lib.hid hp
      have HW := Lib.hid (fun w A A2 hv ho => worksOf_any xs os b c b2 c2 nn w A A2 hn2 hv ho (by omega) (by omega))
      rw [hp] at HW
      rw [show okP (some ws) = true from rfl] at HW
      clear hp
      go_enter Try.func36, Try.ntmps36
      go_wp2_with (first | (go_at_call 40; refine (ValidShots_any xs b c _ HA.out hn HF.out).mono ?_; rintro e w1 ⟨rfl, hb1⟩) | (go_at_call 41; refine (orderOk_any xs.length os _ c b2 c2 _ (HA2.out.below hb1) hn hn2 hc2).mono ?_; rintro e w2 ⟨rfl, hb2⟩) | (go_at_call 59; refine (Calls.boolIs HC.out (crewsOk_any _ _)).mono ?_; rintro e w' ⟨rfl, rfl⟩) | (go_at_call 60; refine (HW.out _ (HA.out.below (Bel.trans hb1 hb2)) (HA2.out.below (Bel.trans hb1 hb2)) (by first | assumption | exact not_f (by assumption) | exact not_t (by assumption)) (by first | assumption | exact not_f (by assumption) | exact not_t (by assumption))).mono ?_; rintro e w3 ⟨⟨v, rfl, R⟩, hb3⟩; have HR := Lib.hid R; clear R))
      · go_ret2
        obtain ⟨e1, e2⟩ := pw_c (askS_1 (os := os) (n := (nn : Int)) (by first | assumption | exact not_f (by assumption) | exact not_t (by assumption))) (by omega)
        rw [e1, e2]
        exact ⟨⟨_, rfl, Row.nil⟩, hb1⟩
      · go_ret2
        obtain ⟨e1, e2⟩ := pw_c (askS_7 (n := (nn : Int)) (by first | assumption | exact not_f (by assumption) | exact not_t (by assumption)) (by first | assumption | exact not_f (by assumption) | exact not_t (by assumption))) (by omega)
        rw [e1, e2]
        exact ⟨⟨_, rfl, Row.nil⟩, Bel.trans hb1 hb2⟩
      · go_ret2
        obtain ⟨e1, e2⟩ := pw_0 (askS_0 (by first | assumption | exact not_f (by assumption) | exact not_t (by assumption)) (by first | assumption | exact not_f (by assumption) | exact not_t (by assumption)) HC.out) HP.out
        rw [e1, e2]
        exact ⟨⟨_, rfl, HR.out.lower (Bel.trans hb1 hb2).size⟩, Bel.trans (Bel.trans hb1 hb2) hb3⟩
theorem l22Plan_any (xs : List SShot) (os : List Int) (b c b2 c2 : Nat) (n : Int) (w : World) (A : Arr SShot.cells 5 w b xs) (A2 : Arr intc 1 w b2 os) (hn : xs.length ≤ 1048576) (hn2 : os.length ≤ 1048576) (hc2 : os.length ≤ c2) (hf : ∀ i (h : i < xs.length), xs[i].Id.size ≤ 9223372036854775807) :
    Calls Try.prog 34 #[.slice (some ⟨b, 0, none⟩) xs.length c, .slice (some ⟨b2, 0, none⟩) os.length c2, .int .i64 n] w fun e w' => (∃ v, e = .returned (.tuple #[v, .int .i64 (pcode xs os n)]) ∧ Row intc 1 2 w' w.heap.size v ((pws xs os n).map Prod.snd)) ∧ Below w.heap.size w w' := by
  have HA := Lib.hid A
  have HA2 := Lib.hid A2
  have hak := l22Ask_any xs os b c b2 c2 n w A A2 hn hn2 hc2 hf
  obtain ⟨cc, hcc⟩ : ∃ cc, askS xs os n = cc := ⟨_, rfl⟩
  rw [hcc] at hak
  have HCC := Lib.hid hcc
  have HAK := Lib.hid hak
  clear A A2 hf hcc hak
  by_cases hz : cc = 0
  · have hz1 : (cc != 0) = false := by simp [hz]
    have hc0 := HCC.out
    rw [hz] at hc0
    obtain ⟨h1, h2, h3⟩ := askS_ok hc0
    obtain ⟨hc1, hc2_⟩ := inr_bd' h3
    obtain ⟨nn, rfl⟩ : ∃ nn : Nat, n = (nn : Int) := ⟨n.toNat, by omega⟩
    have HC0 := Lib.hid hc0
    cases hp : plV xs os nn with
    | none =>
      have HP := Lib.hid (pw_6 hc0 hp)
      have HW := Lib.hid (fun w A A2 => l22Ends_any xs os b c b2 c2 nn w A A2 hn2 h1 h2 (by omega) (by omega))
      rw [hp] at HW
      rw [show okP (none : Option (List (Int × Int))) = false from rfl] at HW
      clear hp hc0 h1 h2 h3
      go_enter Try.func34, Try.ntmps34
      go_wp2_with (first | (go_at_call 39; refine HAK.out.mono ?_; rintro e w1 ⟨rfl, hb1⟩) | (go_at_call 58; refine (HW.out _ (HA.out.below hb1) (HA2.out.below hb1)).mono ?_; rintro e w3 ⟨⟨v, rfl, R⟩, hb3⟩; have HR := Lib.hid R; clear R))
      go_ret2
      rw [HP.out.1, HP.out.2]
      exact ⟨⟨_, rfl, Row.nil⟩, Bel.trans hb1 hb3⟩
    | some ws =>
      have HP := Lib.hid (pw_0 hc0 hp)
      have HW := Lib.hid (fun w A A2 => l22Ends_any xs os b c b2 c2 nn w A A2 hn2 h1 h2 (by omega) (by omega))
      rw [hp] at HW
      rw [show okP (some ws) = true from rfl, show endsP (some ws) = ws.map Prod.snd from rfl] at HW
      clear hp hc0 h1 h2 h3
      go_enter Try.func34, Try.ntmps34
      go_wp2_with (first | (go_at_call 39; refine HAK.out.mono ?_; rintro e w1 ⟨rfl, hb1⟩) | (go_at_call 58; refine (HW.out _ (HA.out.below hb1) (HA2.out.below hb1)).mono ?_; rintro e w3 ⟨⟨v, rfl, R⟩, hb3⟩; have HR := Lib.hid R; clear R))
      go_ret2
      rw [HP.out.1, HP.out.2]
      exact ⟨⟨_, rfl, HR.out.lower hb1.size⟩, Bel.trans hb1 hb3⟩
  · have hz1 : (cc != 0) = true := by simp [hz]
    have HP := Lib.hid (pw_c HCC.out hz)
    clear hz
    go_enter Try.func34, Try.ntmps34
    go_wp2_with (go_at_call 39; refine HAK.out.mono ?_; rintro e w1 ⟨rfl, hb1⟩)
    go_ret2
    rw [HP.out.1, HP.out.2]
    exact ⟨⟨_, rfl, Row.nil⟩, hb1⟩
theorem IsShotPlan_any (xs : List SShot) (os : List Int) (b c b2 c2 : Nat) (n : Int) (w : World) (A : Arr SShot.cells 5 w b xs) (A2 : Arr intc 1 w b2 os) (hn : xs.length ≤ 1048576) (hn2 : os.length ≤ 1048576) (hc2 : os.length ≤ c2) (hf : ∀ i (h : i < xs.length), xs[i].Id.size ≤ 9223372036854775807) :
    Calls Try.prog 12 #[.slice (some ⟨b, 0, none⟩) xs.length c, .slice (some ⟨b2, 0, none⟩) os.length c2, .int .i64 n] w fun e w' => e = .returned (.bool (pcode xs os n == 0)) ∧ Below w.heap.size w w' := by
  have hpw := planWorks_any xs os b c b2 c2 n w A A2 hn hn2 hc2 hf
  obtain ⟨cc, hcc⟩ : ∃ cc, pcode xs os n = cc := ⟨_, rfl⟩
  rw [hcc] at hpw
  have HPW := Lib.hid hpw
  have HCC := Lib.hid hcc
  clear A A2 hf hpw hcc
  go_enter Try.func12, Try.ntmps12
  go_wp2_with fail
  refine HPW.out.mono ?_
  rintro e w1 ⟨⟨v, rfl, R⟩, hb1⟩
  clear R HPW
  go_wp2
  go_ret
  exact ⟨ret_bool (by rw [HCC.out]), hb1⟩
theorem sIsShotPlan_any (xs : List SShot) (os : List Int) (b c b2 c2 : Nat) (n : Int) (w : World) (A : Arr SShot.cells 5 w b xs) (A2 : Arr intc 1 w b2 os) (hn : xs.length ≤ 1048576) (hn2 : os.length ≤ 1048576) (hc2 : os.length ≤ c2) (hf : ∀ i (h : i < xs.length), xs[i].Id.size ≤ 9223372036854775807) :
    Calls Try.prog 9 #[.slice (some ⟨b, 0, none⟩) xs.length c, .slice (some ⟨b2, 0, none⟩) os.length c2, .int .i64 n] w fun e w' => e = .returned (.bool (pcode xs os n == 0)) ∧ Below w.heap.size w w' := by
  have hpw := l22Plan_any xs os b c b2 c2 n w A A2 hn hn2 hc2 hf
  obtain ⟨cc, hcc⟩ : ∃ cc, pcode xs os n = cc := ⟨_, rfl⟩
  rw [hcc] at hpw
  have HPW := Lib.hid hpw
  have HCC := Lib.hid hcc
  clear A A2 hf hpw hcc
  go_enter Try.func9, Try.ntmps9
  go_wp2_with fail
  refine HPW.out.mono ?_
  rintro e w1 ⟨⟨v, rfl, R⟩, hb1⟩
  clear R HPW
  go_wp2
  go_ret
  exact ⟨ret_bool (by rw [HCC.out]), hb1⟩
def leR (xs : List SShot) (os : List Int) (n : Int) : Int × Int := if pcode xs os n = 0 then (lastE (pws xs os n) (pws xs os n).length, 0) else (0, pcode xs os n)
theorem leR_c {xs : List SShot} {os : List Int} {n c : Int} (h : pcode xs os n = c) (hc : c ≠ 0) : leR xs os n = (0, c) := by rw [leR, h, if_neg hc]
theorem leR_0 {xs : List SShot} {os : List Int} {n m : Int} {ws : List (Int × Int)} (h : pcode xs os n = 0) (hw : pws xs os n = ws) (hm : lastE ws ws.length = m) : leR xs os n = (m, 0) := by rw [leR, if_pos h, hw, hm]
theorem pws_len (xs : List SShot) (os : List Int) (n : Int) : (pws xs os n).length ≤ os.length := by
  unfold pws
  split
  · unfold plV
    cases h : plTo xs os n.toNat os.length with
    | none => simp [wsP]
    | some p => obtain ⟨f, ws⟩ := p; have := (pl_len h).2; simpa [wsP] using this
  · simp
theorem LastEnd_any (xs : List SShot) (os : List Int) (b c b2 c2 : Nat) (n : Int) (w : World) (A : Arr SShot.cells 5 w b xs) (A2 : Arr intc 1 w b2 os) (hn : xs.length ≤ 1048576) (hn2 : os.length ≤ 1048576) (hc2 : os.length ≤ c2) (hf : ∀ i (h : i < xs.length), xs[i].Id.size ≤ 9223372036854775807) :
    Calls Try.prog 16 #[.slice (some ⟨b, 0, none⟩) xs.length c, .slice (some ⟨b2, 0, none⟩) os.length c2, .int .i64 n] w fun e w' => e = .returned (.tuple #[.int .i64 (leR xs os n).1, .int .i64 (leR xs os n).2]) ∧ Below w.heap.size w w' := by
  have hpw := planWorks_any xs os b c b2 c2 n w A A2 hn hn2 hc2 hf
  obtain ⟨cc, hcc⟩ : ∃ cc, pcode xs os n = cc := ⟨_, rfl⟩
  obtain ⟨ws, hws⟩ : ∃ ws, pws xs os n = ws := ⟨_, rfl⟩
  rw [hcc, hws] at hpw
  have hwl := pws_len xs os n
  rw [hws] at hwl
  have HPW := Lib.hid hpw
  have HCC := Lib.hid hcc
  have HWS := Lib.hid hws
  clear A A2 hf hpw hcc hws
  go_enter Try.func16, Try.ntmps16
  go_wp2_with fail
  refine HPW.out.mono ?_
  rintro e w1 ⟨⟨v, rfl, R⟩, hb1⟩
  obtain ⟨D, d, rfl, hS⟩ := R.form (fun _ => rfl)
  have HS := Lib.hid hS
  clear R HPW hS
  by_cases hz : cc = 0
  · have hz1 : (cc != 0) = false := by simp [hz]
    have hc0 := HCC.out
    rw [hz] at hc0
    have HC0 := Lib.hid hc0
    clear hc0
    go_wp2_with fail
    go_loopw [10, 25] (fun v i wr => ∃ (k : Nat) (m : Int), k ≤ ws.length ∧ i = .int .i64 k ∧ v = .int .i64 m ∧ lastE ws k = m ∧ Below w1.heap.size w1 wr) (fun _ i wr => ws.length - (intOf i).toNat)
    case atStart => exact ⟨0, 0, by omega, rfl, rfl, rfl, Below.refl _ _⟩
    case round =>
      obtain ⟨k, m, hk, rfl, rfl, hm, hbel⟩ := hrel
      by_cases hlt : k < ws.length
      · obtain ⟨g, o, rfl, hc⟩ := HS.out (by omega)
        have hcb := hc.below hbel hc.1
        have c0 : wr.cell? ⟨g, o + k * 2, none⟩ = some (.int .i64 ws[k].1) := hcb.2 k hlt 0 _ rfl
        have c1 : wr.cell? ⟨g, o + k * 2 + 1, none⟩ = some (.int .i64 ws[k].2) := hcb.2 k hlt 1 _ rfl
        have HN := Lib.hid (lastE_at hlt hm)
        clear hm hc hcb HS
        go_wp2
        all_goals
          go_roundw
          case rel => exact ⟨k + 1, _, by omega, by go_num, rfl, by rw [HN.out]; omega, Bel.alloc hbel _⟩
          case measure => simp [intOf]; omega
      · obtain rfl : k = ws.length := by omega
        have HM := Lib.hid hm
        clear hm HS
        go_wp2
        go_ret2
        rw [leR_0 HC0.out HWS.out HM.out]
        exact ⟨rfl, Bel.trans hb1 hbel⟩
  · have hz1 : (cc != 0) = true := by simp [hz]
    have HZ := Lib.hid hz
    clear hz
    go_wp2
    go_ret2
    rw [leR_c HCC.out HZ.out]
    exact ⟨rfl, hb1⟩
theorem sLastEnd_any (xs : List SShot) (os : List Int) (b c b2 c2 : Nat) (n : Int) (w : World) (A : Arr SShot.cells 5 w b xs) (A2 : Arr intc 1 w b2 os) (hn : xs.length ≤ 1048576) (hn2 : os.length ≤ 1048576) (hc2 : os.length ≤ c2) (hf : ∀ i (h : i < xs.length), xs[i].Id.size ≤ 9223372036854775807) :
    Calls Try.prog 15 #[.slice (some ⟨b, 0, none⟩) xs.length c, .slice (some ⟨b2, 0, none⟩) os.length c2, .int .i64 n] w fun e w' => e = .returned (.tuple #[.int .i64 (leR xs os n).1, .int .i64 (leR xs os n).2]) ∧ Below w.heap.size w w' := by
  have hpw := l22Plan_any xs os b c b2 c2 n w A A2 hn hn2 hc2 hf
  obtain ⟨cc, hcc⟩ : ∃ cc, pcode xs os n = cc := ⟨_, rfl⟩
  obtain ⟨ws, hws⟩ : ∃ ws, pws xs os n = ws := ⟨_, rfl⟩
  rw [hcc, hws] at hpw
  have hwl := pws_len xs os n
  rw [hws] at hwl
  have HPW := Lib.hid hpw
  have HCC := Lib.hid hcc
  have HWS := Lib.hid hws
  clear A A2 hf hpw hcc hws
  go_enter Try.func15, Try.ntmps15
  go_wp2_with fail
  refine HPW.out.mono ?_
  rintro e w1 ⟨⟨v, rfl, R⟩, hb1⟩
  obtain ⟨D, d, rfl, hS⟩ := R.form (fun _ => rfl)
  have HS := Lib.hid hS
  clear R HPW hS
  by_cases hz : cc = 0
  · have hz1 : (cc != 0) = false := by simp [hz]
    have hc0 := HCC.out
    rw [hz] at hc0
    have HC0 := Lib.hid hc0
    clear hc0
    have hll : (ws.map Prod.snd).length = ws.length := List.length_map _
    rw [hll]
    clear hll
    go_wp2_with fail
    go_loopw [10, 11] (fun v i wr => ∃ (k : Nat) (m : Int), k ≤ ws.length ∧ i = .int .i64 k ∧ v = .int .i64 m ∧ lastE ws k = m ∧ Below w1.heap.size w1 wr) (fun _ i wr => ws.length - (intOf i).toNat)
    case atStart => exact ⟨0, 0, by omega, rfl, rfl, rfl, Below.refl _ _⟩
    case round =>
      obtain ⟨k, m, hk, rfl, rfl, hm, hbel⟩ := hrel
      by_cases hlt : k < ws.length
      · have hlt2 : k < (ws.map Prod.snd).length := by rw [List.length_map]; exact hlt
        obtain ⟨g, o, rfl, hc⟩ := HS.out (by omega)
        have c0 : wr.cell? ⟨g, o + k, none⟩ = some (.int .i64 ws[k].2) := by
          have := (hc.below hbel hc.1).2 k hlt2 0 _ rfl
          rw [Nat.mul_one, Nat.add_zero, List.getElem_map] at this
          exact this
        have HN := Lib.hid (lastE_at hlt hm)
        clear hm hc HS hlt2
        go_wp2_with (go_at_call 38; refine (l00Max_any _ _ _).mono ?_; rintro e w' ⟨rfl, rfl⟩)
        go_roundw
        case rel => exact ⟨k + 1, _, by omega, by go_num, rfl, HN.out, hbel⟩
        case measure => simp [intOf]; omega
      · obtain rfl : k = ws.length := by omega
        have HM := Lib.hid hm
        clear hm HS
        go_wp2
        go_ret2
        rw [leR_0 HC0.out HWS.out HM.out]
        exact ⟨rfl, Bel.trans hb1 hbel⟩
  · have hz1 : (cc != 0) = true := by simp [hz]
    have HZ := Lib.hid hz
    clear hz
    go_wp2
    go_ret2
    rw [leR_c HCC.out HZ.out]
    exact ⟨rfl, hb1⟩
end Go.Proofs.Ytocipeididkllaa
