/- Chapter 22: works of plans: the walks over the shots. -/
import Derived.Test.YtocipeididkllaaL22c
namespace Go.Proofs.Ytocipeididkllaa
set_option linter.unusedSimpArgs false
set_option linter.unusedVariables false
open Go.RowKit
set_option maxHeartbeats 400000
set_option maxRecDepth 100000
def okP {α : Type} (o : Option α) : Bool := o.isSome
def wsP (o : Option (List (Int × Int))) : List (Int × Int) := match o with | some ws => ws | none => []
theorem pl_len {xs : List SShot} {os : List Int} {n k : Nat} {f : List Int} {ws : List (Int × Int)} (hp : plTo xs os n k = some (f, ws)) : f.length = n ∧ ws.length ≤ k := by
  induction k generalizing f ws with
  | zero => simp only [plTo, Option.some.injEq, Prod.mk.injEq] at hp; obtain ⟨rfl, rfl⟩ := hp; simp
  | succ k ih =>
    rw [plTo] at hp
    split at hp
    · cases hp
    · rename_i f0 ws0 h0
      have := ih h0
      split at hp
      · split at hp
        · simp only [Option.some.injEq, Prod.mk.injEq] at hp
          obtain ⟨rfl, rfl⟩ := hp
          rw [List.length_set, List.length_append]
          simp only [List.length_cons, List.length_nil]
          omega
        · cases hp
      · simp only [Option.some.injEq, Prod.mk.injEq] at hp
        obtain ⟨rfl, rfl⟩ := hp
        omega
theorem ret_pair {v v' : Value} {b b' : Bool} (h : v = v') (h' : b = b') : Ending.returned (.tuple #[v, .bool b]) = .returned (.tuple #[v', .bool b']) := by rw [h, h']
theorem worksOf_any (xs : List SShot) (os : List Int) (b c b2 c2 n : Nat) (w : World) (A : Arr SShot.cells 5 w b xs) (A2 : Arr intc 1 w b2 os) (hn2 : os.length ≤ 1048576) (hv : vlShot xs = true) (ho : ordOk xs.length os = true) (hn1 : 1 ≤ n) (hn3 : n ≤ 3) :
    Calls Try.prog 60 #[.slice (some ⟨b, 0, none⟩) xs.length c, .slice (some ⟨b2, 0, none⟩) os.length c2, .int .i64 n] w fun e w' => (∃ v, e = .returned (.tuple #[v, .bool (okP (plV xs os n))]) ∧ Row workc 2 68 w' w.heap.size v (wsP (plV xs os n))) ∧ Below w.heap.size w w' := by
  have HA := Lib.hid A
  have HA2 := Lib.hid A2
  have HVL := Lib.hid hv
  have HOK := Lib.hid ho
  have hmk := mk_slice (P := Try.prog) 23 2 (.int .i64 0) 1 8 (by kernel_rfl) (by kernel_rfl) (by omega) n (by omega)
  clear A A2 hv ho
  go_enter Try.func60, Try.ntmps60
  go_wp2_with fail
  clear hmk
  go_loopw [9, 18] (fun v i wr => ∃ (k : Nat) (f : List Int) (ws : List (Int × Int)), k ≤ os.length ∧ i = .int .i64 k ∧ plTo xs os n k = some (f, ws) ∧ (∀ x ∈ f, 0 ≤ x ∧ x ≤ 1440) ∧ Box 2 wr w.heap.size (frA f) ∧ Row workc 2 68 wr (w.heap.size + 1) v ws ∧ Below w.heap.size w wr) (fun _ i wr => os.length - (intOf i).toNat)
  case atStart =>
    refine ⟨0, List.replicate n 0, [], by omega, rfl, rfl, fun x hx => ?_, ?_, Row.nil, Bel.alloc (Below.refl _ _) _⟩
    · rw [List.mem_replicate] at hx; omega
    · rw [← fr_made]; first | exact Box.new _ _ _ | (rw [← Nat.mul_one n]; exact Box.new _ _ _)
  case round =>
    obtain ⟨k, f, ws, hk, rfl, hpl, hfb, B, hrow, hbel⟩ := hrel
    obtain ⟨hfl, hwl⟩ := pl_len hpl
    have HR := Lib.hid hrow
    clear hrow
    by_cases hlt : k < os.length
    · have h0 := (HA2.out.below hbel).get hlt 0 k rfl (by omega)
      obtain ⟨i, hi, hoi⟩ := ordOk_at HOK.out hlt
      obtain ⟨e0, e1, e2, e3, e4⟩ := SShot.elem (HA.out.below hbel) hi
      have hob := okShot_bd (vlShot_ok HVL.out i hi)
      obtain ⟨m, hm, hmk2, hml, hle, hlts⟩ := argm_spec (f := f) (by omega) f.length (by omega) (Nat.le_refl _)
      have hmb := hfb f[m] (List.getElem_mem hml)
      have hfa := arr_frA B
      have hmin := minI_any f w.heap.size n n wr hfa hfl (by omega) (by omega) m hm hml
      have hidx := indexI_any f w.heap.size n n f[m] wr hfa hfl (by omega)
      rw [idxOf_some hml (fun j hj => by rw [hasAt_at (by omega)]; have := hlts j (by omega) hj; simpa using (by omega : f[m] ≠ f[j])) (by rw [hasAt_at hml]; simp)] at hidx
      have hmc : wr.cell? ⟨w.heap.size, m, none⟩ = some (.int .i64 f[m]) := (B.cell m).trans (frA_at hml)
      have hmf : wr.frozen? ⟨w.heap.size, m, none⟩ = false := B.free m
      have hmn : m < n := by omega
      rw [hoi] at h0
      have HMIN := Lib.hid hmin
      have HIDX := Lib.hid hidx
      have HB := Lib.hid B
      have HFB := Lib.hid hfb
      have hsz := hbel.size
      clear hmin hidx hfa hle hlts B hfb
      obtain ⟨be, hbe⟩ : ∃ be, max f[m] xs[i].From = be := ⟨_, rfl⟩
      obtain ⟨q, hbq⟩ : ∃ q, be + xs[i].Minutes = q := ⟨_, rfl⟩
      have hif : (if f[m] < xs[i].From then xs[i].From else f[m]) = be := by rw [← hbe]; split <;> omega
      have hbb : 0 ≤ be ∧ be ≤ 1440 := by omega
      by_cases hq : q ≤ xs[i].Until
      · have hst := plTo_yes hpl hlt hi hoi hm hml (by rw [hbe, hbq]; exact hq)
        rw [hbe, hbq] at hst
        have HN := Lib.hid hst
        have HIF := Lib.hid hif
        have hqd : decide (xs[i].Until < q) = false := decide_eq_false (by omega)
        clear hpl hoi hm hfl hst hbe hif
        go_wp2_with (first | (go_at_call 73; refine HMIN.out.mono ?_; rintro e w' ⟨rfl, rfl⟩) | (go_at_call 72; refine HIDX.out.mono ?_; rintro e w' ⟨rfl, rfl⟩))
        have pc := Past.cell hmc (HB.out).lt
        obtain ⟨p0, p1, p2, p3, p4⟩ := SShot.elems (HA.out.below hbel) hi
        refine wp_region_past (by kernel_rfl) (by kernel_rfl) ?_
        repeat (go_big_quiet_step (fail))
        refine wpQuiet_nil ?_
        intro W1 hw'
        obtain ⟨⟨W_, hb1⟩, hw''⟩ := hw'
        subst hw''
        rw [HIF.out]
        clear h0 e0 e1 e2 e3 e4 hmc hmf
        have e2 := p2 ⟨W1, hb1⟩
        have e3 := p3 ⟨W1, hb1⟩
        dsimp only at e2 e3
        have B1 := HB.out.below hb1
        have hmc : W1.cell? ⟨w.heap.size, m, none⟩ = some (.int .i64 f[m]) := (B1.cell m).trans (frA_at hml)
        have hmf : W1.frozen? ⟨w.heap.size, m, none⟩ = false := B1.free m
        have hbl := Bel.trans hbel hb1
        have BS := B1.set m (.int .i64 q)
        rw [frA_set] at BS
        have RS := HR.out.below hb1
        have HBn := Lib.hid BS
        have HRn := Lib.hid (RS.of_same fun y hy => Below.heap_setCell W1 ⟨w.heap.size, m, none⟩ (.int .i64 q) y (by have := RS.own_ge hy; show y ≠ w.heap.size; omega))
        have HEn := Lib.hid (Bel.setCell hbl (p := ⟨w.heap.size, m, none⟩) (Nat.le_refl _) (.int .i64 q))
        clear p0 p1 p2 p3 p4 pc B1 BS RS HMIN HIDX
        go_wp2_with fail
        generalize W1.setCell ⟨w.heap.size, m, none⟩ (.int .i64 q) = W2 at HBn HRn HEn ⊢
        clear e2 e3 hmc hmf
        have pc : ∀ x : Past W2, x.w.cell? ⟨w.heap.size, m, none⟩ = some (.int .i64 q) := Past.cell (((HBn.out).cell m).trans (by rw [frA_at (by simpa using hml)]; simp)) (HBn.out).lt
        obtain ⟨p0, p1, p2, p3, p4⟩ := SShot.elems (HA.out.below HEn.out) hi
        refine wp_region_past (by kernel_rfl) (by kernel_rfl) ?_
        repeat (go_big_quiet_step (fail))
        refine wpQuiet_nil ?_
        intro W3 hw'
        obtain ⟨⟨W_, hb3⟩, hw''⟩ := hw'
        subst hw''
        have hmc : W3.cell? ⟨w.heap.size, m, none⟩ = some (.int .i64 q) := pc ⟨W3, hb3⟩
        have hbl3 := Bel.trans HEn.out hb3
        have HEn := Lib.hid hbl3
        have HBn := Lib.hid (HBn.out.below hb3)
        have HRn := Lib.hid (HRn.out.below hb3)
        have hlB := (HBn.out).lt
        clear p0 p1 p2 p3 p4 pc
        go_wp2_with (at_builtin; refine wpList_pushW rfl _ _ 62 rfl (w.heap.size + 1) 68 Try.underlying62 (by kernel_rfl) u9 ws be q rfl HRn.out 1 rfl (by omega) (by have := hbl3.size; omega) ?_; intro v' w4 hr4 hb4)
        go_roundw
        case rel => exact ⟨k + 1, _, _, by omega, by go_num, HN.out, fr_bd HFB.out (by omega), HBn.out.upto hb4 (Nat.lt_succ_self _), hr4, HEn.out.trans (hb4.mono (Nat.le_succ _))⟩
        case measure => simp [intOf]; omega
      · have hst := plV_none (n := n) (xs := xs) hlt (plTo_no hpl hlt hi hoi hm hml (by rw [hbe, hbq]; exact hq))
        have HN := Lib.hid hst
        have HIF := Lib.hid hif
        have hqd : decide (xs[i].Until < q) = true := decide_eq_true (by omega)
        clear hpl hoi hm hfl hst hbe hif
        go_wp2_with (first | (go_at_call 73; refine HMIN.out.mono ?_; rintro e w' ⟨rfl, rfl⟩) | (go_at_call 72; refine HIDX.out.mono ?_; rintro e w' ⟨rfl, rfl⟩))
        have pc := Past.cell hmc (HB.out).lt
        obtain ⟨p0, p1, p2, p3, p4⟩ := SShot.elems (HA.out.below hbel) hi
        refine wp_region_past (by kernel_rfl) (by kernel_rfl) ?_
        repeat (go_big_quiet_step (fail))
        refine wpQuiet_nil ?_
        intro W1 hw'
        obtain ⟨⟨W_, hb1⟩, hw''⟩ := hw'
        subst hw''
        rw [HIF.out]
        clear h0 e0 e1 e2 e3 e4 hmc hmf
        have e2 := p2 ⟨W1, hb1⟩
        have e3 := p3 ⟨W1, hb1⟩
        dsimp only at e2 e3
        have B1 := HB.out.below hb1
        have hmc : W1.cell? ⟨w.heap.size, m, none⟩ = some (.int .i64 f[m]) := (B1.cell m).trans (frA_at hml)
        have hmf : W1.frozen? ⟨w.heap.size, m, none⟩ = false := B1.free m
        have hbl := Bel.trans hbel hb1
        have BS := B1.set m (.int .i64 q)
        rw [frA_set] at BS
        have RS := HR.out.below hb1
        have HBn := Lib.hid BS
        have HRn := Lib.hid (RS.of_same fun y hy => Below.heap_setCell W1 ⟨w.heap.size, m, none⟩ (.int .i64 q) y (by have := RS.own_ge hy; show y ≠ w.heap.size; omega))
        have HEn := Lib.hid (Bel.setCell hbl (p := ⟨w.heap.size, m, none⟩) (Nat.le_refl _) (.int .i64 q))
        clear p0 p1 p2 p3 p4 pc B1 BS RS HMIN HIDX
        go_wp2_with fail
        generalize W1.setCell ⟨w.heap.size, m, none⟩ (.int .i64 q) = W2 at HBn HRn HEn ⊢
        clear e2 e3 hmc hmf
        have pc : ∀ x : Past W2, x.w.cell? ⟨w.heap.size, m, none⟩ = some (.int .i64 q) := Past.cell (((HBn.out).cell m).trans (by rw [frA_at (by simpa using hml)]; simp)) (HBn.out).lt
        obtain ⟨p0, p1, p2, p3, p4⟩ := SShot.elems (HA.out.below HEn.out) hi
        refine wp_region_past (by kernel_rfl) (by kernel_rfl) ?_
        repeat (go_big_quiet_step (fail))
        refine wpQuiet_nil ?_
        intro W3 hw'
        obtain ⟨⟨W_, hb3⟩, hw''⟩ := hw'
        subst hw''
        have hmc : W3.cell? ⟨w.heap.size, m, none⟩ = some (.int .i64 q) := pc ⟨W3, hb3⟩
        have hbl3 := Bel.trans HEn.out hb3
        have HEn := Lib.hid hbl3
        have HBn := Lib.hid (HBn.out.below hb3)
        have HRn := Lib.hid (HRn.out.below hb3)
        have hlB := (HBn.out).lt
        clear p0 p1 p2 p3 p4 pc
        go_wp2
        go_ret2
        rw [HN.out]
        exact ⟨⟨_, rfl, Row.nil⟩, HEn.out⟩
    · obtain rfl : k = os.length := by omega
      have HP := Lib.hid (plV_some hpl)
      clear hpl B hfb hfl
      go_wp2
      go_ret2
      rw [HP.out]
      exact ⟨⟨_, rfl, HR.out.lower (Nat.le_succ _)⟩, hbel⟩
end Go.Proofs.Ytocipeididkllaa
