/- Chapter 22: ends of plans: the reference's walks. -/
import Derived.Test.YtocipeididkllaaL22d
namespace Go.Proofs.Ytocipeididkllaa
set_option linter.unusedSimpArgs false
set_option linter.unusedVariables false
open Go.RowKit
set_option maxHeartbeats 400000
set_option maxRecDepth 100000
def endsP (o : Option (List (Int × Int))) : List Int := (wsP o).map Prod.snd
theorem l22Ends_any (xs : List SShot) (os : List Int) (b c b2 c2 n : Nat) (w : World) (A : Arr SShot.cells 5 w b xs) (A2 : Arr intc 1 w b2 os) (hn2 : os.length ≤ 1048576) (hv : vlShot xs = true) (ho : ordOk xs.length os = true) (hn1 : 1 ≤ n) (hn3 : n ≤ 3) :
    Calls Try.prog 58 #[.slice (some ⟨b, 0, none⟩) xs.length c, .slice (some ⟨b2, 0, none⟩) os.length c2, .int .i64 n] w fun e w' => (∃ v, e = .returned (.tuple #[v, .bool (okP (plV xs os n))]) ∧ Row intc 1 2 w' w.heap.size v (endsP (plV xs os n))) ∧ Below w.heap.size w w' := by
  have HA := Lib.hid A
  have HA2 := Lib.hid A2
  have HVL := Lib.hid hv
  have HOK := Lib.hid ho
  have hmk := mk_slice (P := Try.prog) 23 2 (.int .i64 0) 1 8 (by kernel_rfl) (by kernel_rfl) (by omega) n (by omega)
  clear A A2 hv ho
  go_enter Try.func58, Try.ntmps58
  go_wp2_with fail
  clear hmk
  go_loopw [9, 10] (fun v i wr => ∃ (k : Nat) (f : List Int) (ws : List (Int × Int)), k ≤ os.length ∧ i = .int .i64 k ∧ plTo xs os n k = some (f, ws) ∧ (∀ x ∈ f, 0 ≤ x ∧ x ≤ 1440) ∧ Box 2 wr w.heap.size (frA f) ∧ Row intc 1 2 wr (w.heap.size + 1) v (ws.map Prod.snd) ∧ Below w.heap.size w wr) (fun _ i wr => os.length - (intOf i).toNat)
  case atStart =>
    refine ⟨0, List.replicate n 0, [], by omega, rfl, rfl, fun x hx => ?_, ?_, ?_, Bel.alloc (Bel.alloc (Below.refl _ _) _) _⟩
    · rw [List.mem_replicate] at hx; omega
    · rw [← fr_made]; exact (Box.new _ _ _).alloc _
    · have hr := Row.empty (cs := intc) (sz := 1) (t := 2) (w0 := w.alloc (.cells (madeCells (Value.int .i64 0).cells n) 2)) (B := w.heap.size + 1) (by simp)
      have hp2 : (w.alloc (.cells (madeCells (Value.int .i64 0).cells n) 2)).heap.size = w.heap.size + 1 := by simp
      rw [hp2] at hr
      exact hr
  case round =>
    obtain ⟨k, f, ws, hk, rfl, hpl, hfb, B, hrow, hbel⟩ := hrel
    obtain ⟨hfl, hwl⟩ := pl_len hpl
    have HR := Lib.hid hrow
    have HB := Lib.hid B
    have HFB := Lib.hid hfb
    have HFL := Lib.hid hfl
    have HPL := Lib.hid hpl
    have hf1 : n ≤ f.length := by omega
    have hf2 : f.length ≤ n := by omega
    clear hrow B hfb hfl hpl
    rename World => wo
    by_cases hlt : k < os.length
    · have hdt : decide ((k : Int) < (os.length : Int)) = true := decide_eq_true (by omega)
      have hsz := hbel.size
      go_wp2_with fail
      go_loopw [11, 12] (fun g k2 wr => ∃ (j mm : Nat), 1 ≤ j ∧ j ≤ n ∧ k2 = .int .i64 j ∧ g = .int .i64 mm ∧ argm f j = mm ∧ mm < f.length ∧ Below wo.heap.size wo wr) (fun _ k2 wr => n - (intOf k2).toNat)
      case atStart => exact ⟨1, 0, by omega, by omega, rfl, rfl, argm_1 (by omega), by omega, Below.refl _ _⟩
      case round =>
        obtain ⟨j, mm, hj1, hj, rfl, rfl, hmm, hml, hbr⟩ := hrel
        have B := HB.out.below hbr
        have hbelr := Bel.trans hbel hbr
        have hmn : mm < n := by omega
        have hmc : wr.cell? ⟨w.heap.size, mm, none⟩ = some (.int .i64 f[mm]) := (B.cell mm).trans (frA_at hml)
        by_cases hlj : j < n
        · have hjl : j < f.length := by omega
          have hjc : wr.cell? ⟨w.heap.size, j, none⟩ = some (.int .i64 f[j]) := (B.cell j).trans (frA_at hjl)
          have q1 := Past.cell hmc B.lt
          have q2 := Past.cell hjc B.lt
          clear hmc hjc B
          by_cases hq : f[j] < f[mm]
          · have HN := Lib.hid (argm_yes hjl hmm hml hq)
            clear hmm
            go_wp2_with fail
            refine wp_region_past (by kernel_rfl) (by kernel_rfl) ?_
            repeat (go_big_quiet_step (fail))
            refine wpQuiet_nil ?_
            intro W1 hw'
            obtain ⟨⟨W_, hb1⟩, hw''⟩ := hw'
            subst hw''
            clear q1 q2
            go_wp2
            go_roundw
            case rel => exact ⟨j + 1, j, by omega, by omega, by go_num, rfl, HN.out, hjl, Bel.trans hbr hb1⟩
            case measure => simp [intOf]; omega
          · have HN := Lib.hid (argm_no hjl hmm hml hq)
            clear hmm
            go_wp2_with fail
            refine wp_region_past (by kernel_rfl) (by kernel_rfl) ?_
            repeat (go_big_quiet_step (fail))
            refine wpQuiet_nil ?_
            intro W1 hw'
            obtain ⟨⟨W_, hb1⟩, hw''⟩ := hw'
            subst hw''
            clear q1 q2
            go_wp2
            go_roundw
            case rel => exact ⟨j + 1, mm, by omega, by omega, by go_num, rfl, HN.out, hml, Bel.trans hbr hb1⟩
            case measure => simp [intOf]; omega
        · have hje : j = f.length := by omega
          have hdj : decide ((j : Int) < (n : Int)) = false := decide_eq_false (by omega)
          rw [hje] at hmm
          clear hje
          have h0 := (HA2.out.below hbelr).get hlt 0 k rfl (by omega)
          obtain ⟨i, hi, hoi⟩ := ordOk_at HOK.out hlt
          obtain ⟨p0, p1, p2, p3, p4⟩ := SShot.elems (HA.out.below hbelr) hi
          have hob := okShot_bd (vlShot_ok HVL.out i hi)
          have hmb := HFB.out f[mm] (List.getElem_mem hml)
          have hmf : wr.frozen? ⟨w.heap.size, mm, none⟩ = false := B.free mm
          have pc := Past.cell hmc B.lt
          have HB := Lib.hid B
          have HR := Lib.hid (HR.out.below hbr)
          obtain ⟨be, hbe⟩ : ∃ be, max f[mm] xs[i].From = be := ⟨_, rfl⟩
          obtain ⟨q, hbq⟩ : ∃ q, be + xs[i].Minutes = q := ⟨_, rfl⟩
          have hbb : 0 ≤ be ∧ be ≤ 1440 := by omega
          have hwq := IntWalk.i64_in q (by omega)
          by_cases hq : q ≤ xs[i].Until
          · have hst := plTo_yes HPL.out hlt hi hoi hmm hml (by rw [hbe, hbq]; exact hq)
            rw [hbe, hbq] at hst
            have HN := Lib.hid hst
            have hqd : decide (xs[i].Until < q) = false := decide_eq_false (by omega)
            rw [hoi] at h0
            clear hoi hmm hst B
            go_wp2_with fail
            refine wp_region_past_tail 17 (by kernel_rfl) (by kernel_rfl) ?_
            simp only [List.take_succ_cons, List.take_zero, List.drop_succ_cons, List.drop_zero]
            repeat (go_big_quiet_step ((go_at_call 38; exact Past.same _ (l00Max_any _ _ _))))
            refine wpQuiet_nil ?_
            intro W1 hw'
            obtain ⟨⟨W_, hb1⟩, hw''⟩ := hw'
            subst hw''
            clear h0 hmc hmf
            have B1 := HB.out.below hb1
            have hmc : W1.cell? ⟨w.heap.size, mm, none⟩ = some (.int .i64 f[mm]) := (B1.cell mm).trans (frA_at hml)
            have hmf : W1.frozen? ⟨w.heap.size, mm, none⟩ = false := B1.free mm
            have hbl := Bel.trans hbelr hb1
            have BS := B1.set mm (.int .i64 q)
            rw [frA_set] at BS
            have RS := HR.out.below hb1
            have HBn := Lib.hid BS
            have HRn := Lib.hid (RS.of_same fun y hy => Below.heap_setCell W1 ⟨w.heap.size, mm, none⟩ (.int .i64 q) y (by have := RS.own_ge hy; show y ≠ w.heap.size; omega))
            have HEn := Lib.hid (Bel.setCell hbl (p := ⟨w.heap.size, mm, none⟩) (Nat.le_refl _) (.int .i64 q))
            clear p0 p1 p2 p3 p4 pc B1 BS RS
            go_wp2_with fail
            generalize W1.setCell ⟨w.heap.size, mm, none⟩ (.int .i64 q) = W2 at HBn HRn HEn ⊢
            clear hmc hmf
            have pc : ∀ x : Past W2, x.w.cell? ⟨w.heap.size, mm, none⟩ = some (.int .i64 q) := Past.cell (((HBn.out).cell mm).trans (by rw [frA_at (by simpa using hml)]; simp)) (HBn.out).lt
            obtain ⟨p0, p1, p2, p3, p4⟩ := SShot.elems (HA.out.below HEn.out) hi
            refine wp_region_past (by kernel_rfl) (by kernel_rfl) ?_
            repeat (go_big_quiet_step (fail))
            refine wpQuiet_nil ?_
            intro W3 hw'
            obtain ⟨⟨W_, hb3⟩, hw''⟩ := hw'
            subst hw''
            have hmc : W3.cell? ⟨w.heap.size, mm, none⟩ = some (.int .i64 q) := pc ⟨W3, hb3⟩
            have hbl3 := Bel.trans HEn.out hb3
            have HEn := Lib.hid hbl3
            have HBn := Lib.hid (HBn.out.below hb3)
            have HRn := Lib.hid (HRn.out.below hb3)
            have hlB := (HBn.out).lt
            clear p0 p1 p2 p3 p4 pc
            go_wp2_with (at_builtin; refine wpList_pushI rfl _ _ 23 rfl (w.heap.size + 1) 2 Try.underlying23 (by kernel_rfl) u9 (ws.map Prod.snd) q rfl HRn.out 1 rfl (by rw [List.length_map]; omega) (by have := hbl3.size; omega) ?_; intro v' w4 hr4 hg4 hb4)
            go_roundw
            case rel => exact ⟨k + 1, _, _, by omega, by go_num, HN.out, fr_bd HFB.out (by omega), HBn.out.upto hb4 (Nat.lt_succ_self _), by rw [List.map_append]; exact hr4, HEn.out.trans (hb4.mono (Nat.le_succ _))⟩
            case measure => simp [intOf]; omega
          · have hst := plV_none (n := n) (xs := xs) hlt (plTo_no HPL.out hlt hi hoi hmm hml (by rw [hbe, hbq]; exact hq))
            have HN := Lib.hid hst
            have hqd : decide (xs[i].Until < q) = true := decide_eq_true (by omega)
            rw [hoi] at h0
            clear hoi hmm hst B
            go_wp2_with fail
            refine wp_region_past_tail 17 (by kernel_rfl) (by kernel_rfl) ?_
            simp only [List.take_succ_cons, List.take_zero, List.drop_succ_cons, List.drop_zero]
            repeat (go_big_quiet_step ((go_at_call 38; exact Past.same _ (l00Max_any _ _ _))))
            refine wpQuiet_nil ?_
            intro W1 hw'
            obtain ⟨⟨W_, hb1⟩, hw''⟩ := hw'
            subst hw''
            clear h0 hmc hmf
            have B1 := HB.out.below hb1
            have hmc : W1.cell? ⟨w.heap.size, mm, none⟩ = some (.int .i64 f[mm]) := (B1.cell mm).trans (frA_at hml)
            have hmf : W1.frozen? ⟨w.heap.size, mm, none⟩ = false := B1.free mm
            have hbl := Bel.trans hbelr hb1
            have BS := B1.set mm (.int .i64 q)
            rw [frA_set] at BS
            have RS := HR.out.below hb1
            have HBn := Lib.hid BS
            have HRn := Lib.hid (RS.of_same fun y hy => Below.heap_setCell W1 ⟨w.heap.size, mm, none⟩ (.int .i64 q) y (by have := RS.own_ge hy; show y ≠ w.heap.size; omega))
            have HEn := Lib.hid (Bel.setCell hbl (p := ⟨w.heap.size, mm, none⟩) (Nat.le_refl _) (.int .i64 q))
            clear p0 p1 p2 p3 p4 pc B1 BS RS
            go_wp2_with fail
            generalize W1.setCell ⟨w.heap.size, mm, none⟩ (.int .i64 q) = W2 at HBn HRn HEn ⊢
            clear hmc hmf
            have pc : ∀ x : Past W2, x.w.cell? ⟨w.heap.size, mm, none⟩ = some (.int .i64 q) := Past.cell (((HBn.out).cell mm).trans (by rw [frA_at (by simpa using hml)]; simp)) (HBn.out).lt
            obtain ⟨p0, p1, p2, p3, p4⟩ := SShot.elems (HA.out.below HEn.out) hi
            refine wp_region_past (by kernel_rfl) (by kernel_rfl) ?_
            repeat (go_big_quiet_step (fail))
            refine wpQuiet_nil ?_
            intro W3 hw'
            obtain ⟨⟨W_, hb3⟩, hw''⟩ := hw'
            subst hw''
            have hmc : W3.cell? ⟨w.heap.size, mm, none⟩ = some (.int .i64 q) := pc ⟨W3, hb3⟩
            have hbl3 := Bel.trans HEn.out hb3
            have HEn := Lib.hid hbl3
            have HBn := Lib.hid (HBn.out.below hb3)
            have HRn := Lib.hid (HRn.out.below hb3)
            have hlB := (HBn.out).lt
            clear p0 p1 p2 p3 p4 pc
            go_wp2
            go_ret2
            rw [HN.out]
            exact ⟨⟨_, rfl, Row.nil⟩, HEn.out⟩
    · obtain rfl : k = os.length := by omega
      have HP := Lib.hid (plV_some HPL.out)
      go_wp2
      go_ret2
      rw [HP.out]
      exact ⟨⟨_, rfl, HR.out.lower (Nat.le_succ _)⟩, hbel⟩
end Go.Proofs.Ytocipeididkllaa
