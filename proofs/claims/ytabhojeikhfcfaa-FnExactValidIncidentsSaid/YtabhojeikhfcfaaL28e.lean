/- Chapter 28: the longest time without an incident. -/
import Derived.Test.YtabhojeikhfcfaaL28b
namespace Go.Proofs.Ytabhojeikhfcfaa
open Go.RowKit
set_option maxHeartbeats 400000
set_option maxRecDepth 100000
/-- the best beginning, its length, the next beginning -/
structure SCalm where
  best : Int
  most : Int
  start : Int
def stepC (s : SCalm) (d : Int) : SCalm := if s.most < d - s.start then ⟨s.start, d - s.start, d + 1⟩ else ⟨s.best, s.most, d + 1⟩
def calmTo (xs : List SIncident) (f u : Int) : Nat → SCalm
  | 0 => ⟨0, 0, f⟩
  | k + 1 => match xs[k]? with
    | some x => if x.Day < f ∨ u < x.Day then calmTo xs f u k else stepC (calmTo xs f u k) x.Day
    | none => calmTo xs f u k
theorem calmTo_out {xs : List SIncident} {f u : Int} {k : Nat} (hk : k < xs.length) (h : xs[k].Day < f ∨ u < xs[k].Day) : calmTo xs f u (k + 1) = calmTo xs f u k := by
  rw [calmTo, List.getElem?_eq_getElem hk]; exact if_pos h
theorem calmTo_in {xs : List SIncident} {f u : Int} {k : Nat} (hk : k < xs.length) (h1 : f ≤ xs[k].Day) (h2 : xs[k].Day ≤ u) : calmTo xs f u (k + 1) = stepC (calmTo xs f u k) xs[k].Day := by
  rw [calmTo, List.getElem?_eq_getElem hk]; exact if_neg (by omega)
theorem ltIncident_day {a b : SIncident} (h : ltIncident a b = true) : a.Day ≤ b.Day := by
  unfold ltIncident cmpIncident orI cmpI at h
  by_cases h1 : b.Day < a.Day
  · rw [if_neg (show ¬ a.Day < b.Day by omega), if_pos h1] at h
    simp at h
  · omega
theorem calm_inv {xs : List SIncident} {f u : Int} (h : vlIncident xs = true) (hf : 0 ≤ f) (hu : u ≤ 36524) (hfu : f ≤ u) : ∀ k, k ≤ xs.length →
    0 ≤ (calmTo xs f u k).most ∧ (calmTo xs f u k).most ≤ 40000 ∧ 0 ≤ (calmTo xs f u k).best ∧ (calmTo xs f u k).best ≤ 40000 ∧ f ≤ (calmTo xs f u k).start ∧ (calmTo xs f u k).start ≤ u + 1 ∧ ((calmTo xs f u k).start = f ∨ ∃ hk : k - 1 < xs.length, 0 < k ∧ (calmTo xs f u k).start ≤ xs[k - 1].Day + 1) := by
  intro k
  induction k with
  | zero => intro _; simp [calmTo]; omega
  | succ k ih =>
    intro hk
    have hlt : k < xs.length := by omega
    obtain ⟨a1, a2, a3, a4, a5, a6, a7⟩ := ih (by omega)
    have hs : ∀ (h0 : 0 < k), (xs[k - 1]'(by omega)).Day ≤ xs[k].Day := fun h0 => ltIncident_day (vlIncident_lt h k hlt h0)
    by_cases ho : xs[k].Day < f ∨ u < xs[k].Day
    · rw [calmTo_out hlt ho]
      refine ⟨a1, a2, a3, a4, a5, a6, ?_⟩
      rcases a7 with a7 | ⟨b1, b2, b3⟩
      · exact Or.inl a7
      · refine Or.inr ⟨by omega, by omega, ?_⟩
        have := hs b2
        simp only [Nat.add_sub_cancel]
        omega
    · rw [calmTo_in hlt (by omega) (by omega)]
      unfold stepC
      split
      · refine ⟨by simp only; omega, by simp only; omega, by simp only; omega, by simp only; omega, by simp only; omega, by simp only; omega, Or.inr ⟨by omega, by omega, ?_⟩⟩
        simp only [Nat.add_sub_cancel]; omega
      · refine ⟨a1, a2, a3, a4, by simp only; omega, by simp only; omega, Or.inr ⟨by omega, by omega, ?_⟩⟩
        simp only [Nat.add_sub_cancel]; omega
/-- the program's test -/
theorem calmTo_out' {xs : List SIncident} {f u : Int} (h : vlIncident xs = true) (hf : 0 ≤ f) (hu : u ≤ 36524) (hfu : f ≤ u) {k : Nat} (hk : k < xs.length) (ho : inr (calmTo xs f u k).start u xs[k].Day = false) : calmTo xs f u (k + 1) = calmTo xs f u k := by
  obtain ⟨a1, a2, a3, a4, a5, a6, a7⟩ := calm_inv h hf hu hfu k (by omega)
  by_cases hx : xs[k].Day < f ∨ u < xs[k].Day
  · exact calmTo_out hk hx
  · rw [calmTo_in hk (by omega) (by omega)]
    have h1 : xs[k].Day < (calmTo xs f u k).start := by
      simp [inr] at ho; omega
    rcases a7 with a7 | ⟨b1, b2, b3⟩
    · omega
    · have hs := ltIncident_day (vlIncident_lt h k hk b2)
      have e : xs[k].Day + 1 = (calmTo xs f u k).start := by omega
      unfold stepC
      rw [if_neg (by omega), e]
theorem calmTo_in' {xs : List SIncident} {f u : Int} (h : vlIncident xs = true) (hf : 0 ≤ f) (hu : u ≤ 36524) (hfu : f ≤ u) {k : Nat} (hk : k < xs.length) (ho : inr (calmTo xs f u k).start u xs[k].Day = true) : calmTo xs f u (k + 1) = stepC (calmTo xs f u k) xs[k].Day := by
  obtain ⟨a1, a2, a3, a4, a5, a6, a7⟩ := calm_inv h hf hu hfu k (by omega)
  simp [inr] at ho
  exact calmTo_in hk (by omega) (by omega)
def calmEnd (xs : List SIncident) (f u : Int) : SCalm := stepC (calmTo xs f u xs.length) (u + 1)
def calmRes (xs : List SIncident) (f u : Int) : Int × Int × Int :=
  if vlIncident xs then (if inr 0 36524 f && inr 0 36524 u then (if u < f then (0, 0, 2) else if (calmEnd xs f u).most = 0 then (0, 0, 3) else ((calmEnd xs f u).best, (calmEnd xs f u).most, 0)) else (0, 0, 2)) else (0, 0, 1)
theorem calmc_any (d : Int) (s : SCalm) (g1 g2 g3 B : Nat) (w : World) (B1 : Box 2 w g1 #[.int .i64 s.start]) (B2 : Box 2 w g2 #[.int .i64 s.most]) (B3 : Box 2 w g3 #[.int .i64 s.best])
    (h12 : g1 ≠ g2) (h13 : g1 ≠ g3) (h23 : g2 ≠ g3) (hB1 : B ≤ g1) (hB2 : B ≤ g2) (hB3 : B ≤ g3) (hd0 : -100000 ≤ d) (hd1 : d ≤ 100000) (hs0 : -100000 ≤ s.start) (hs1 : s.start ≤ 100000) :
    Calls Try.prog 37 #[.int .i64 d, .pointer (some ⟨g1, 0, none⟩), .pointer (some ⟨g2, 0, none⟩), .pointer (some ⟨g3, 0, none⟩)] w fun e w' => e = .returned (.tuple #[]) ∧
      (Box 2 w' g1 #[.int .i64 (stepC s d).start] ∧ Box 2 w' g2 #[.int .i64 (stepC s d).most] ∧ Box 2 w' g3 #[.int .i64 (stepC s d).best] ∧ Below B w w') := by
  have c1 : w.cell? ⟨g1, 0, none⟩ = some (.int .i64 s.start) := B1.cell 0
  have c2 : w.cell? ⟨g2, 0, none⟩ = some (.int .i64 s.most) := B2.cell 0
  have c3 : w.cell? ⟨g3, 0, none⟩ = some (.int .i64 s.best) := B3.cell 0
  have z1 := B1.free 0
  have z2 := B2.free 0
  have z3 := B3.free 0
  have HB1 := Lib.hid B1
  have HB2 := Lib.hid B2
  have HB3 := Lib.hid B3
  have H12 := Lib.hid h12
  have H13 := Lib.hid h13
  have H23 := Lib.hid h23
  clear B1 B2 B3
  by_cases hm : s.most < d - s.start
  · have e : stepC s d = ⟨s.start, d - s.start, d + 1⟩ := if_pos hm
    rw [e]
    have HE := Lib.hid e
    clear e
    go_enter Try.func37, Try.ntmps37
    go_wp2_with fail
    go_region
    go_wp2
    go_end0
    refine ⟨rfl, ?_, ?_, ?_, ?_⟩
    · exact Box.set (w := ((w.setCell _ _).setCell _ _).drew) ((HB1.out.far H13.out _).far H12.out _) 0 _
    · exact Box.far (w := ((w.setCell _ _).setCell _ _).drew) ((HB2.out.far H23.out _).set 0 _) (Ne.symm H12.out) _
    · exact Box.far (w := ((w.setCell _ _).setCell _ _).drew) ((HB3.out.set 0 _).far (Ne.symm H23.out) _) (Ne.symm H13.out) _
    · exact ((((Below.refl _ _).setCell (by simpa using hB3) _).setCell (by simpa using hB2) _).drew).setCell (by simpa using hB1) _
  · have e : stepC s d = ⟨s.best, s.most, d + 1⟩ := if_neg hm
    rw [e]
    clear e
    go_enter Try.func37, Try.ntmps37
    go_wp2
    go_end0
    refine ⟨rfl, ?_, ?_, ?_, ?_⟩
    · exact HB1.out.set 0 _
    · exact HB2.out.far (Ne.symm H12.out) _
    · exact HB3.out.far (Ne.symm H13.out) _
    · exact (Below.refl _ _).setCell (by simpa using hB1) _
theorem stepC_bd {s : SCalm} {d : Int} (h1 : 0 ≤ s.most) (h2 : s.most ≤ 40000) (h3 : 0 ≤ s.start) (h4 : s.start ≤ 40000) (h5 : d ≤ 40000) : 0 ≤ (stepC s d).most ∧ (stepC s d).most ≤ 40000 := by
  unfold stepC; split <;> simp only <;> omega
theorem CalmDays_any (xs : List SIncident) (b c : Nat) (f u : Int) (w : World) (A : Arr SIncident.cells 6 w b xs) (hn : xs.length ≤ 1048576) (hf : ∀ i (h : i < xs.length), xs[i].Place.size ≤ 9223372036854775807 ∧ xs[i].Cause.size ≤ 9223372036854775807) :
    Calls Try.prog 16 #[.slice (some ⟨b, 0, none⟩) xs.length c, .int .i64 f, .int .i64 u] w fun e w' => e = .returned (.tuple #[.int .i64 (calmRes xs f u).1, .int .i64 (calmRes xs f u).2.1, .int .i64 (calmRes xs f u).2.2]) ∧ Below w.heap.size w w' := by
  have HA := Lib.hid A
  have HF := Lib.hid hf
  clear A hf
  go_enter Try.func16, Try.ntmps16
  go_wp2_with (first | (go_at_call 24; refine (ValidIncidents_any xs b c _ HA.out hn HF.out).mono ?_; rintro e w1 ⟨rfl, hb1⟩) | (go_at_call 36; refine (dayValid_any _ _).mono ?_; rintro e w' ⟨rfl, rfl⟩))
  all_goals try (go_ret3; exact ⟨ret_int3 (by (try simp only [Bool.not_eq_true', Bool.not_eq_false', Bool.not_eq_true] at *); simp [calmRes, *]) (by (try simp only [Bool.not_eq_true', Bool.not_eq_false', Bool.not_eq_true] at *); simp [calmRes, *]) (by (try simp only [Bool.not_eq_true', Bool.not_eq_false', Bool.not_eq_true] at *); simp [calmRes, *]), (by repeat (first | (with_reducible assumption) | (with_reducible exact Below.refl _ _) | (with_reducible refine Bel.alloc ?_ _) | (with_reducible refine Below.drew ?_) | (with_reducible refine Bel.drewN ?_ _) | (with_reducible refine Bel.setCell ?_ (by (try simp) <;> omega) _) | (with_reducible refine Bel.trans ?_ (by assumption))))⟩)
  have hv : vlIncident xs = true := (by first | assumption | exact not_f (by assumption) | exact not_t (by assumption))
  have hf0 : inr 0 36524 f = true := (by first | assumption | exact not_f (by assumption) | exact not_t (by assumption))
  have hu0 : inr 0 36524 u = true := (by first | assumption | exact not_f (by assumption) | exact not_t (by assumption))
  have hfu : f ≤ u := by omega
  obtain ⟨hf1, hf2⟩ := inr_bd' hf0
  obtain ⟨hu1, hu2⟩ := inr_bd' hu0
  have hlen := vlIncident_len hv
  have hr : calmRes xs f u = (if (calmEnd xs f u).most = 0 then (0, 0, 3) else ((calmEnd xs f u).best, (calmEnd xs f u).most, 0)) := by
    rw [calmRes, if_pos hv, hf0, hu0, Bool.and_self, if_pos rfl, if_neg (show ¬ u < f by omega)]
  have HV := Lib.hid hv
  have HR := Lib.hid hr
  clear hv hf0 hu0 hr
  refine wp_box_out3 ?_
  intro W hbw B3 B2 B1
  have hs1 := hb1.size
  have hbt := Bel.trans hb1 hbw
  go_loopw [37] (fun i wr => ∃ k : Nat, k ≤ xs.length ∧ i = .int .i64 k ∧ Box 2 wr (w1.heap.size + 2) #[.int .i64 (calmTo xs f u k).start] ∧ Box 2 wr (w1.heap.size + 1) #[.int .i64 (calmTo xs f u k).most] ∧ Box 2 wr w1.heap.size #[.int .i64 (calmTo xs f u k).best] ∧ Below w.heap.size w wr) (fun i wr => xs.length - (intOf i).toNat)
  case atStart => exact ⟨0, by omega, rfl, B1, B2, B3, hbt⟩
  case round =>
    clear B1 B2 B3
    obtain ⟨k, hk, rfl, C1, C2, C3, hbel⟩ := hrel
    obtain ⟨a1, a2, a3, a4, a5, a6, a7⟩ := calm_inv HV.out hf1 hu2 hfu k hk
    obtain ⟨s, hs⟩ : ∃ s, calmTo xs f u k = s := ⟨_, rfl⟩
    rw [hs] at C1 C2 C3 a1 a2 a5 a6
    have HS := Lib.hid hs
    clear a7 hs a3 a4
    by_cases hlt : k < xs.length
    · obtain ⟨e0, e1, e2, e3, e4, e5⟩ := SIncident.elem (HA.out.below hbel) hlt
      have hbd := okIncident_bd (vlIncident_ok HV.out k hlt)
      have c1 : wr.cell? ⟨w1.heap.size + 2, 0, none⟩ = some (.int .i64 s.start) := C1.cell 0
      have hl1 := C1.lt
      cases hin : inr s.start u xs[k].Day
      · have HI := Lib.hid hin
        clear hin
        go_wp2_with fail
        refine calls_box_out ?_
        intro W2 hb2 B
        refine (Calls.boolIs HI.out (within_any _ _ _ _)).mono ?_
        rintro e w2 ⟨rfl, rfl⟩
        clear B e0 e1 e2 e3 e4 e5 c1
        have D1 := C1.below hb2
        have D2 := C2.below hb2
        have D3 := C3.below hb2
        go_wp2
        go_roundw
        case rel =>
          have hc := calmTo_out' HV.out hf1 hu2 hfu hlt (by rw [HS.out]; exact HI.out)
          exact ⟨k + 1, by omega, by go_num, by rw [hc, HS.out]; exact D1, by rw [hc, HS.out]; exact D2, by rw [hc, HS.out]; exact D3, Bel.trans hbel hb2⟩
        case measure => simp [intOf]; omega
      · have HI := Lib.hid hin
        clear hin
        go_wp2_with fail
        refine calls_box_out ?_
        intro W2 hb2 B
        refine (Calls.boolIs HI.out (within_any _ _ _ _)).mono ?_
        rintro e w2 ⟨rfl, rfl⟩
        clear e0 e1 e2 e3 e4 e5 c1
        have e0 : W2.cell? ⟨wr.heap.size, 0, none⟩ = some (.int .i64 xs[k].Day) := B.cell 0
        have e1 : W2.cell? ⟨wr.heap.size, 1, none⟩ = some (.string xs[k].Place) := B.cell 1
        have e2 : W2.cell? ⟨wr.heap.size, 2, none⟩ = some (.string xs[k].Cause) := B.cell 2
        have e3 : W2.cell? ⟨wr.heap.size, 3, none⟩ = some (.int .i64 xs[k].Level) := B.cell 3
        have e4 : W2.cell? ⟨wr.heap.size, 4, none⟩ = some (.int .i64 xs[k].Caught) := B.cell 4
        have e5 : W2.cell? ⟨wr.heap.size, 5, none⟩ = some (.int .i64 xs[k].Buried) := B.cell 5
        have D1 := C1.below hb2
        have D2 := C2.below hb2
        have D3 := C3.below hb2
        go_wp2_with fail
        refine (calmc_any xs[k].Day s _ _ _ w.heap.size _ D1 D2 D3 (by omega) (by omega) (by omega) (by omega) (by omega) (by omega) (by omega) (by omega) (by omega) (by omega)).mono ?_
        rintro e w3 ⟨rfl, E1, E2, E3, hb3⟩
        clear e0 e1 e2 e3 e4 e5
        go_wp2
        go_roundw
        case rel =>
          have hc := calmTo_in' HV.out hf1 hu2 hfu hlt (by rw [HS.out]; exact HI.out)
          exact ⟨k + 1, by omega, by go_num, by rw [hc, HS.out]; exact E1, by rw [hc, HS.out]; exact E2, by rw [hc, HS.out]; exact E3, (Bel.trans hbel hb2).trans hb3⟩
        case measure => simp [intOf]; omega
    · have hke : k = xs.length := by omega
      have hex : decide ((k : Int) < (xs.length : Int)) = false := decide_eq_false (by omega)
      have he : calmEnd xs f u = stepC s (u + 1) := by rw [calmEnd, ← hke, HS.out]
      have HE := Lib.hid he
      clear hke he
      go_wp2_with fail
      refine (calmc_any (u + 1) s _ _ _ w.heap.size _ C1 C2 C3 (by omega) (by omega) (by omega) (by omega) (by omega) (by omega) (by omega) (by omega) (by omega) (by omega)).mono ?_
      rintro e w3 ⟨rfl, E1, E2, E3, hb3⟩
      have hbd := stepC_bd (d := u + 1) a1 a2 (by omega) (by omega) (by omega)
      obtain ⟨s', hs'⟩ : ∃ s', stepC s (u + 1) = s' := ⟨_, rfl⟩
      rw [hs'] at E1 E2 E3 hbd
      have HS' := Lib.hid hs'
      clear hs'
      have d2 : w3.cell? ⟨w1.heap.size + 1, 0, none⟩ = some (.int .i64 s'.most) := E2.cell 0
      have d3 : w3.cell? ⟨w1.heap.size, 0, none⟩ = some (.int .i64 s'.best) := E3.cell 0
      have hbt := hbel.trans hb3
      clear C1 C2 C3 E1 E2 E3 hb3
      by_cases hz : s'.most = 0
      · have hz1 : (s'.most == 0) = true := beq_iff_eq.mpr hz
        have HZ := Lib.hid hz
        clear hz
        go_wp2
        go_ret3
        exact ⟨by rw [HR.out, HE.out, HS'.out, if_pos HZ.out]; rfl, (by repeat (first | (with_reducible assumption) | (with_reducible exact Below.refl _ _) | (with_reducible refine Bel.alloc ?_ _) | (with_reducible refine Below.drew ?_) | (with_reducible refine Bel.drewN ?_ _) | (with_reducible refine Bel.setCell ?_ (by (try simp) <;> omega) _) | (with_reducible refine Bel.trans ?_ (by assumption))))⟩
      · have hz1 : (s'.most == 0) = false := beq_eq_false_iff_ne.mpr hz
        have HZ := Lib.hid hz
        clear hz
        go_wp2_with fail
        go_quiet (fail)
        go_wp2
        go_ret3
        exact ⟨by rw [HR.out, HE.out, HS'.out, if_neg HZ.out]; rfl, (by repeat (first | (with_reducible assumption) | (with_reducible exact Below.refl _ _) | (with_reducible refine Bel.alloc ?_ _) | (with_reducible refine Below.drew ?_) | (with_reducible refine Bel.drewN ?_ _) | (with_reducible refine Bel.setCell ?_ (by (try simp) <;> omega) _) | (with_reducible refine Bel.trans ?_ (by assumption))))⟩
theorem sCalmDays_any (xs : List SIncident) (b c : Nat) (f u : Int) (w : World) (A : Arr SIncident.cells 6 w b xs) (hn : xs.length ≤ 1048576) (hf : ∀ i (h : i < xs.length), xs[i].Place.size ≤ 9223372036854775807 ∧ xs[i].Cause.size ≤ 9223372036854775807) :
    Calls Try.prog 15 #[.slice (some ⟨b, 0, none⟩) xs.length c, .int .i64 f, .int .i64 u] w fun e w' => e = .returned (.tuple #[.int .i64 (calmRes xs f u).1, .int .i64 (calmRes xs f u).2.1, .int .i64 (calmRes xs f u).2.2]) ∧ Below w.heap.size w w' := by
  have HA := Lib.hid A
  have HF := Lib.hid hf
  clear A hf
  go_enter Try.func15, Try.ntmps15
  go_wp2_with (first | (go_at_call 30; refine (l28Ok_any xs b c _ HA.out hn HF.out).mono ?_; rintro e w1 ⟨rfl, hb1⟩) | (go_at_call 35; refine (l02Day_any _ _).mono ?_; rintro e w' ⟨rfl, rfl⟩))
  all_goals try (go_ret3; exact ⟨ret_int3 (by (try simp only [Bool.not_eq_true', Bool.not_eq_false', Bool.not_eq_true] at *); simp [calmRes, *]) (by (try simp only [Bool.not_eq_true', Bool.not_eq_false', Bool.not_eq_true] at *); simp [calmRes, *]) (by (try simp only [Bool.not_eq_true', Bool.not_eq_false', Bool.not_eq_true] at *); simp [calmRes, *]), (by repeat (first | (with_reducible assumption) | (with_reducible exact Below.refl _ _) | (with_reducible refine Bel.alloc ?_ _) | (with_reducible refine Below.drew ?_) | (with_reducible refine Bel.drewN ?_ _) | (with_reducible refine Bel.setCell ?_ (by (try simp) <;> omega) _) | (with_reducible refine Bel.trans ?_ (by assumption))))⟩)
  have hv : vlIncident xs = true := (by first | assumption | exact not_f (by assumption) | exact not_t (by assumption))
  have hf0 : inr 0 36524 f = true := (by first | assumption | exact not_f (by assumption) | exact not_t (by assumption))
  have hu0 : inr 0 36524 u = true := (by first | assumption | exact not_f (by assumption) | exact not_t (by assumption))
  have hfu : f ≤ u := by omega
  obtain ⟨hf1, hf2⟩ := inr_bd' hf0
  obtain ⟨hu1, hu2⟩ := inr_bd' hu0
  have hlen := vlIncident_len hv
  have hr : calmRes xs f u = (if (calmEnd xs f u).most = 0 then (0, 0, 3) else ((calmEnd xs f u).best, (calmEnd xs f u).most, 0)) := by
    rw [calmRes, if_pos hv, hf0, hu0, Bool.and_self, if_pos rfl, if_neg (show ¬ u < f by omega)]
  have HV := Lib.hid hv
  have HR := Lib.hid hr
  clear hv hf0 hu0 hr
  go_loopw [9, 10, 11, 12] (fun be mo st i wr => ∃ (k : Nat) (s : SCalm), k ≤ xs.length + 1 ∧ i = .int .i64 k ∧ be = .int .i64 s.best ∧ mo = .int .i64 s.most ∧ st = .int .i64 s.start ∧ (k ≤ xs.length → calmTo xs f u k = s) ∧ (xs.length < k → calmEnd xs f u = s) ∧ Below w.heap.size w wr) (fun _ _ _ i wr => xs.length + 1 - (intOf i).toNat)
  case atStart => exact ⟨0, ⟨0, 0, f⟩, by omega, rfl, rfl, rfl, rfl, fun _ => rfl, by omega, hb1⟩
  case round =>
    obtain ⟨k, s, hk, rfl, rfl, rfl, rfl, hs1, hs2, hbel⟩ := hrel
    have HS2 := Lib.hid hs2
    have HS1 := Lib.hid hs1
    clear hs1 hs2
    by_cases hkn : k ≤ xs.length
    · obtain ⟨a1, a2, a3, a4, a5, a6, a7⟩ := calm_inv HV.out hf1 hu2 hfu k hkn
      rw [HS1.out hkn] at a1 a2 a5 a6
      clear a7 a3 a4
      by_cases hlt : k < xs.length
      · obtain ⟨e0, e1, e2, e3, e4, e5⟩ := SIncident.elem (HA.out.below hbel) hlt
        have hbd := okIncident_bd (vlIncident_ok HV.out k hlt)
        by_cases ho : xs[k].Day < f ∨ u < xs[k].Day
        · have hc : Hid (calmTo xs f u (k + 1) = s) := by
            show calmTo xs f u (k + 1) = s
            rw [calmTo_out hlt ho, HS1.out hkn]
          rcases ho with ho | ho
          · go_wp2
            go_roundw
            case rel => exact ⟨k + 1, s, by omega, by go_num, rfl, rfl, rfl, fun _ => hc.out, by omega, hbel⟩
            case measure => simp [intOf]; omega
          · have ho' : f ≤ xs[k].Day := by omega
            go_wp2
            go_roundw
            case rel => exact ⟨k + 1, s, by omega, by go_num, rfl, rfl, rfl, fun _ => hc.out, by omega, hbel⟩
            case measure => simp [intOf]; omega
        · have ho1 : f ≤ xs[k].Day := by omega
          have ho2 : xs[k].Day ≤ u := by omega
          clear ho
          by_cases hm : s.most < xs[k].Day - s.start
          · have hc : Hid (calmTo xs f u (k + 1) = ⟨s.start, xs[k].Day - s.start, xs[k].Day + 1⟩) := by
              show calmTo xs f u (k + 1) = _
              rw [calmTo_in hlt ho1 ho2, HS1.out hkn, stepC, if_pos hm]
            go_wp2
            go_roundw
            case rel => exact ⟨k + 1, ⟨s.start, xs[k].Day - s.start, xs[k].Day + 1⟩, by omega, by go_num, rfl, rfl, rfl, fun _ => hc.out, by omega, hbel⟩
            case measure => simp [intOf]; omega
          · have hc : Hid (calmTo xs f u (k + 1) = ⟨s.best, s.most, xs[k].Day + 1⟩) := by
              show calmTo xs f u (k + 1) = _
              rw [calmTo_in hlt ho1 ho2, HS1.out hkn, stepC, if_neg hm]
            go_wp2
            go_roundw
            case rel => exact ⟨k + 1, ⟨s.best, s.most, xs[k].Day + 1⟩, by omega, by go_num, rfl, rfl, rfl, fun _ => hc.out, by omega, hbel⟩
            case measure => simp [intOf]; omega
      · have hke : k = xs.length := by omega
        have hex : decide ((k : Int) < (xs.length : Int)) = false := decide_eq_false (by omega)
        by_cases hm : s.most < u + 1 - s.start
        · have hc : Hid (calmEnd xs f u = ⟨s.start, u + 1 - s.start, u + 1 + 1⟩) := by
            show calmEnd xs f u = _
            rw [calmEnd, ← hke, HS1.out hkn, stepC, if_pos hm]
          clear hke
          go_wp2
          go_roundw
          case rel => exact ⟨k + 1, ⟨s.start, u + 1 - s.start, u + 1 + 1⟩, by omega, by go_num, rfl, rfl, rfl, by omega, fun _ => hc.out, hbel⟩
          case measure => simp [intOf]; omega
        · have hc : Hid (calmEnd xs f u = ⟨s.best, s.most, u + 1 + 1⟩) := by
            show calmEnd xs f u = _
            rw [calmEnd, ← hke, HS1.out hkn, stepC, if_neg hm]
          clear hke
          go_wp2
          go_roundw
          case rel => exact ⟨k + 1, ⟨s.best, s.most, u + 1 + 1⟩, by omega, by go_num, rfl, rfl, rfl, by omega, fun _ => hc.out, hbel⟩
          case measure => simp [intOf]; omega
    · have hex : decide ((k : Int) ≤ (xs.length : Int)) = false := decide_eq_false (by omega)
      have he : Hid (calmEnd xs f u = s) := HS2.out (by omega)
      by_cases hz : s.most = 0
      · have hz1 : (s.most == 0) = true := beq_iff_eq.mpr hz
        have HZ := Lib.hid hz
        clear hz
        go_wp2
        go_ret3
        exact ⟨by rw [HR.out, he.out, if_pos HZ.out]; rfl, (by repeat (first | (with_reducible assumption) | (with_reducible exact Below.refl _ _) | (with_reducible refine Bel.alloc ?_ _) | (with_reducible refine Below.drew ?_) | (with_reducible refine Bel.drewN ?_ _) | (with_reducible refine Bel.setCell ?_ (by (try simp) <;> omega) _) | (with_reducible refine Bel.trans ?_ (by assumption))))⟩
      · have hz1 : (s.most == 0) = false := beq_eq_false_iff_ne.mpr hz
        have HZ := Lib.hid hz
        clear hz
        go_wp2
        go_ret3
        exact ⟨by rw [HR.out, he.out, if_neg HZ.out]; rfl, (by repeat (first | (with_reducible assumption) | (with_reducible exact Below.refl _ _) | (with_reducible refine Bel.alloc ?_ _) | (with_reducible refine Below.drew ?_) | (with_reducible refine Bel.drewN ?_ _) | (with_reducible refine Bel.setCell ?_ (by (try simp) <;> omega) _) | (with_reducible refine Bel.trans ?_ (by assumption))))⟩
end Go.Proofs.Ytabhojeikhfcfaa
