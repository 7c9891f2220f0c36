/- Chapter 24: LendKit: the walks. -/
import Derived.Test.YtinijfdopkohfaaL24m
namespace Go.Proofs.Ytinijfdopkohfaa
set_option linter.unusedSimpArgs false
set_option linter.unusedVariables false
open Go.RowKit
set_option maxHeartbeats 400000
set_option maxRecDepth 100000
theorem indexValidG_any (A : Option Addr) (n c : Nat) (k : Int) (w : World) (hn : n ≤ 1048576) : Calls Try.prog 60 #[.slice A n c, .int .i64 k] w fun e w' => e = .returned (.bool (inr 0 ((n : Int) - 1) k)) ∧ w = w' := by
  go_enter Try.func60, Try.ntmps60
  go_wp2_with (go_at_call 56; refine (within_any _ _ _ _).mono ?_; rintro e w' ⟨rfl, rfl⟩)
  go_ret
  exact ⟨rfl, rfl⟩
theorem st_f {xs : List SGroup} {f t : Nat} {a b : SGroup} (hf : f < xs.length) (hne : f ≠ t) (h : f < ((xs.set f a).set t b).length) : ((xs.set f a).set t b)[f]'h = a := by
  rw [List.getElem_set_ne (fun e => hne e.symm)]; simp
theorem st_t {xs : List SGroup} {f t : Nat} {a b : SGroup} (ht : t < xs.length) (h : t < ((xs.set f a).set t b).length) : ((xs.set f a).set t b)[t]'h = b := by simp
theorem st_setf {xs : List SGroup} {f t : Nat} {a b a' : SGroup} (hne : f ≠ t) : ((xs.set f a).set t b).set f a' = (xs.set f a').set t b := by
  rw [List.set_comm _ _ (fun e => hne e.symm), List.set_set]
theorem st_sett {xs : List SGroup} {f t : Nat} {a b b' : SGroup} : ((xs.set f a).set t b).set t b' = (xs.set f a).set t b' := by rw [List.set_set]
theorem st_0 {xs : List SGroup} {f t : Nat} (hf : f < xs.length) (ht : t < xs.length) (hne : f ≠ t) : (xs.set f xs[f]).set t xs[t] = xs := by
  rw [List.set_getElem_self, List.set_getElem_self]
theorem if_lent (has people other heads : Int) : (if (if heads - other < 0 then 0 else heads - other) < (if has - people < 0 then 0 else has - people) then (if heads - other < 0 then 0 else heads - other) else (if has - people < 0 then 0 else has - people)) = lentV has people other heads := by
  unfold lentV
  repeat' split
  all_goals omega
def aQ (a : SGroup) (n1 n2 n3 : Int) (q : Nat) : SGroup := if q = 0 then a else if q = 1 then giveB a (-n1) else if q = 2 then giveS (giveB a (-n1)) (-n2) else giveP (giveS (giveB a (-n1)) (-n2)) (-n3)
def bQ (a : SGroup) (n1 n2 n3 : Int) (q : Nat) : SGroup := if q = 0 then a else if q = 1 then giveB a n1 else if q = 2 then giveS (giveB a n1) n2 else giveP (giveS (giveB a n1) n2) n3
theorem LendKit_any (xs : List SGroup) (b c : Nat) (frm to_ : Int) (w : World) (A : Arr SGroup.cells 7 w b xs) (hn : xs.length ≤ 1048576) (hf : ∀ i (h : i < xs.length), xs[i].Id.size ≤ 9223372036854775807) :
    Calls Try.prog 23 #[.slice (some ⟨b, 0, none⟩) xs.length c, .int .i64 frm, .int .i64 to_] w fun e w' => (∃ v, e = .returned (.tuple #[v, .int .i64 (lkRes xs frm to_).2]) ∧ Row SGroup.cells 7 35 w' w.heap.size v (lkRes xs frm to_).1) ∧ Below w.heap.size w w' := by
  have HA := Lib.hid A
  have HVA := Lib.hid (fun w A => ValidGroups_any xs b c w A hn hf)
  clear A hf
  cases hv : vlGroup xs
  · have HR := Lib.hid (lkRes_1 (f := frm) (t := to_) hv)
    rw [hv] at HVA
    clear hv
    go_enter Try.func23, Try.ntmps23
    go_wp2_with (go_at_call 49; refine (HVA.out _ HA.out).mono ?_; rintro e w1 ⟨rfl, hb1⟩)
    go_ret2
    rw [HR.out]
    exact ⟨⟨_, rfl, Row.nil⟩, hb1⟩
  have HV := Lib.hid hv
  have hlen := vlGroup_len hv
  rw [hv] at HVA
  cases h1 : inr 0 ((xs.length : Int) - 1) frm
  · have HR := Lib.hid (lkRes_2 (f := frm) (t := to_) hv (by rw [h1]; rfl))
    have H1 := Lib.hid h1
    clear hv h1
    go_enter Try.func23, Try.ntmps23
    go_wp2_with (first | (go_at_call 49; refine (HVA.out _ HA.out).mono ?_; rintro e w1 ⟨rfl, hb1⟩) | (go_at_call 60; refine (Calls.boolIs H1.out (indexValidG_any _ xs.length _ _ _ hn)).mono ?_; rintro e w' ⟨rfl, rfl⟩))
    go_ret2
    rw [HR.out]
    exact ⟨⟨_, rfl, Row.nil⟩, hb1⟩
  cases h2 : inr 0 ((xs.length : Int) - 1) to_
  · have HR := Lib.hid (lkRes_2 (f := frm) (t := to_) hv (by rw [h2, Bool.and_false]; rfl))
    have H1 := Lib.hid h1
    have H2 := Lib.hid h2
    clear hv h1 h2
    go_enter Try.func23, Try.ntmps23
    go_wp2_with (go_at_call 49; refine (HVA.out _ HA.out).mono ?_; rintro e w1 ⟨rfl, hb1⟩)
    refine (Calls.boolIs H1.out (indexValidG_any _ xs.length _ _ _ hn)).mono ?_
    rintro e w' ⟨rfl, rfl⟩
    go_wp2_with fail
    refine (Calls.boolIs H2.out (indexValidG_any _ xs.length _ _ _ hn)).mono ?_
    rintro e w' ⟨rfl, rfl⟩
    go_wp2
    go_ret2
    rw [HR.out]
    exact ⟨⟨_, rfl, Row.nil⟩, hb1⟩
  by_cases h3 : frm = to_
  · have h3b : (frm == to_) = true := by simpa using h3
    have HR := Lib.hid (lkRes_2 (f := frm) (t := to_) hv (by rw [h3b, Bool.not_true, Bool.and_false]))
    have H1 := Lib.hid h1
    have H2 := Lib.hid h2
    clear hv h1 h2 h3
    go_enter Try.func23, Try.ntmps23
    go_wp2_with (go_at_call 49; refine (HVA.out _ HA.out).mono ?_; rintro e w1 ⟨rfl, hb1⟩)
    refine (Calls.boolIs H1.out (indexValidG_any _ xs.length _ _ _ hn)).mono ?_
    rintro e w' ⟨rfl, rfl⟩
    go_wp2_with fail
    refine (Calls.boolIs H2.out (indexValidG_any _ xs.length _ _ _ hn)).mono ?_
    rintro e w' ⟨rfl, rfl⟩
    go_wp2
    go_ret2
    rw [HR.out]
    exact ⟨⟨_, rfl, Row.nil⟩, hb1⟩
  have h3b : (frm == to_) = false := by simpa using h3
  obtain ⟨hf0, hf1⟩ := inr_bd' h1
  obtain ⟨ht0, ht1⟩ := inr_bd' h2
  obtain ⟨f, rfl⟩ : ∃ f : Nat, frm = (f : Int) := ⟨frm.toNat, by omega⟩
  obtain ⟨t, rfl⟩ : ∃ t : Nat, to_ = (t : Int) := ⟨to_.toNat, by omega⟩
  have hfl : f < xs.length := by omega
  have htl : t < xs.length := by omega
  have hne : f ≠ t := by omega
  have ga := okGroup_bd (vlGroup_ok hv f hfl)
  have gb := okGroup_bd (vlGroup_ok hv t htl)
  obtain ⟨n1, hn1⟩ : ∃ n1, lentV xs[f].Beacons xs[f].People xs[t].Beacons xs[t].People = n1 := ⟨_, rfl⟩
  obtain ⟨n2, hn2⟩ : ∃ n2, lentV xs[f].Shovels xs[f].People xs[t].Shovels xs[t].People = n2 := ⟨_, rfl⟩
  obtain ⟨n3, hn3⟩ : ∃ n3, lentV xs[f].Probes xs[f].People xs[t].Probes xs[t].People = n3 := ⟨_, rfl⟩
  have HR := Lib.hid (lkRes_0 hv hfl htl hne hn1 hn2 hn3)
  have H1 := Lib.hid h1
  have H2 := Lib.hid h2
  have HN1 := Lib.hid hn1
  have HN2 := Lib.hid hn2
  have HN3 := Lib.hid hn3
  have hb1n : 0 ≤ n1 ∧ n1 ≤ 30 := by rw [← hn1]; unfold lentV; omega
  have hb2n : 0 ≤ n2 ∧ n2 ≤ 30 := by rw [← hn2]; unfold lentV; omega
  have hb3n : 0 ≤ n3 ∧ n3 ≤ 30 := by rw [← hn3]; unfold lentV; omega
  clear hv h1 h2 h3 hn1 hn2 hn3
  go_enter Try.func23, Try.ntmps23
  go_wp2_with (go_at_call 49; refine (HVA.out _ HA.out).mono ?_; rintro e w1 ⟨rfl, hb1⟩)
  refine (Calls.boolIs H1.out (indexValidG_any _ xs.length _ _ _ hn)).mono ?_
  rintro e w' ⟨rfl, rfl⟩
  go_wp2_with fail
  refine (Calls.boolIs H2.out (indexValidG_any _ xs.length _ _ _ hn)).mono ?_
  rintro e w' ⟨rfl, rfl⟩
  go_wp2_with (go_at_call 61; refine (cloneG_any xs b c _ (HA.out.below hb1) hn).mono ?_; rintro e w2 ⟨⟨v, rfl, R⟩, hb2⟩)
  have HR0 := Lib.hid R
  rcases R.2 with ⟨_, h0⟩ | ⟨g, cap, cur, rfl, h5, h6, h7, h8, h9, h10⟩
  · omega
  clear R h5 h6 h7 h8 h9 h10
  refine wp_region_past (by kernel_rfl) (by kernel_rfl) ?_
  repeat (go_big_quiet_step (fail))
  refine wpQuiet_nil ?_
  intro W3 hw'
  obtain ⟨⟨W_, hb3⟩, hw''⟩ := hw'
  subst hw''
  have HR1 := Lib.hid (HR0.out.below hb3)
  have hbw := Bel.trans (Bel.trans hb1 hb2) hb3
  have hs1 := hb1.size
  go_wp2_with (go_at_call 50; refine (kit_any g (f * 7) _).mono ?_; rintro e w4 ⟨rfl, hb4⟩)
  have HR2 := Lib.hid (HR1.out.below hb4)
  have hbw := Bel.trans hbw hb4
  clear HR0 HR1 hb3 hb4
  go_loopw [45] (fun i wr => ∃ q : Nat, q ≤ 3 ∧ i = .int .i64 q ∧ Row SGroup.cells 7 35 wr w1.heap.size (.slice (some ⟨g, 0, none⟩) xs.length cap) ((xs.set f (aQ xs[f] n1 n2 n3 q)).set t (bQ xs[t] n1 n2 n3 q)) ∧ Below w.heap.size w wr) (fun i wr => 3 - (intOf i).toNat)
  case atStart => exact ⟨0, by omega, rfl, by rw [show (xs.set f (aQ xs[f] n1 n2 n3 0)).set t (bQ xs[t] n1 n2 n3 0) = xs from st_0 hfl htl hne]; exact HR2.out, hbw⟩
  case round =>
    obtain ⟨q, hq, rfl, hrow, hbel⟩ := hrel
    clear HR2 hbw
    rcases (show q = 0 ∨ q = 1 ∨ q = 2 ∨ q = 3 by omega) with rfl | rfl | rfl | rfl
    · skip
      have R : Row SGroup.cells 7 35 wr w1.heap.size (.slice (some ⟨g, 0, none⟩) xs.length cap) ((xs.set f (xs[f])).set t (xs[t])) := hrow
      clear hrow
      have hfl2 : f < ((xs.set f (xs[f])).set t (xs[t])).length := by simpa using hfl
      have htl2 : t < ((xs.set f (xs[f])).set t (xs[t])).length := by simpa using htl
      have HR3 := Lib.hid R
      have hgl := R.own_lt (g := g) rfl
      have hgb := R.own_ge (g := g) rfl
      clear R
      go_wp2
      rw [kitIx_0]
      go_wp2_with (go_at_call 50; refine (kit_any g (t * 7) _).mono ?_; rintro e w5 ⟨rfl, hb5⟩)
      rw [kitIx_0]
      have R5 := HR3.out.below hb5
      have hbel := Bel.trans hbel hb5
      have hgl5 := R5.own_lt (g := g) rfl
      have p1 := Past.cell (Row.at0 (cs := SGroup.cells) (sz := 7) (fun _ => rfl) R5 hfl2 (j := 3) (v := .int .i64 (xs[f]).Beacons) (by rw [st_f hfl hne]; rfl)) hgl5
      have p2 := Past.cell (Row.at0 (cs := SGroup.cells) (sz := 7) (fun _ => rfl) R5 hfl2 (j := 1) (v := .int .i64 (xs[f]).People) (by rw [st_f hfl hne]; rfl)) hgl5
      have p3 := Past.cell (Row.at0 (cs := SGroup.cells) (sz := 7) (fun _ => rfl) R5 htl2 (j := 3) (v := .int .i64 (xs[t]).Beacons) (by rw [st_t htl]; rfl)) hgl5
      have p4 := Past.cell (Row.at0 (cs := SGroup.cells) (sz := 7) (fun _ => rfl) R5 htl2 (j := 1) (v := .int .i64 (xs[t]).People) (by rw [st_t htl]; rfl)) hgl5
      try dsimp only [giveB, giveS, giveP] at p1 p2 p3 p4
      have HR5 := Lib.hid R5
      clear R5 HR3
      go_wp2_with fail
      refine wp_region_past (by kernel_rfl) (by kernel_rfl) ?_
      repeat (go_big_quiet_step (fail))
      refine wpQuiet_nil ?_
      intro W6 hw'
      obtain ⟨⟨W_, hb6⟩, hw''⟩ := hw'
      subst hw''
      rw [if_lent, HN1.out]
      -- 1 a, 2 b, 3 j, 4 F, 5 n, 6 give
      have HR6 := HR5.out.below hb6
      have hbel6 := Bel.trans hbel hb6
      have c1 : W6.cell? ⟨g, f * 7 + 3, none⟩ = some (.int .i64 xs[f].Beacons) := p1 ⟨W6, hb6⟩
      have c3 : W6.cell? ⟨g, t * 7 + 3, none⟩ = some (.int .i64 xs[t].Beacons) := p3 ⟨W6, hb6⟩
      have z1 : W6.frozen? ⟨g, f * 7 + 3, none⟩ = false := HR6.free _
      have z3 : W6.frozen? ⟨g, t * 7 + 3, none⟩ = false := HR6.free _
      have hne2 : t ≠ f := fun e => hne e.symm
      have R7 := Row.setF (cs := SGroup.cells) (sz := 7) (fun _ => rfl) (by omega) HR6 (i := f) (j := 3) (y := giveB (xs[f]) (-n1)) (u := .int .i64 (xs[f].Beacons - n1)) hfl2 (by omega) (by rw [st_f hfl hne]; simp [SGroup.cells, giveB, giveS, giveP, Int.sub_eq_add_neg])
      rw [st_setf hne] at R7
      have htl3 : t < ((xs.set f (giveB (xs[f]) (-n1))).set t (xs[t])).length := by simpa using htl
      have R8 := Row.setF (cs := SGroup.cells) (sz := 7) (fun _ => rfl) (by omega) R7 (i := t) (j := 3) (y := giveB (xs[t]) n1) (u := .int .i64 (xs[t].Beacons + n1)) htl3 (by omega) (by rw [st_t htl]; simp [SGroup.cells, giveB, giveS, giveP])
      rw [st_sett] at R8
      have HRn := Lib.hid R8
      have HEn := Lib.hid (Bel.setCell (Bel.setCell hbel6 (p := ⟨g, f * 7 + 3, none⟩) (by show w.heap.size ≤ g; omega) (.int .i64 (xs[f].Beacons - n1))) (p := ⟨g, t * 7 + 3, none⟩) (by show w.heap.size ≤ g; omega) (.int .i64 (xs[t].Beacons + n1)))
      clear p1 p2 p3 p4 HR5 HR6 R7 R8 hb6
      go_wp2
      go_roundw
      case rel => exact ⟨1, by omega, by go_num, HRn.out, HEn.out⟩
      case measure => simp [intOf]
    · skip
      have R : Row SGroup.cells 7 35 wr w1.heap.size (.slice (some ⟨g, 0, none⟩) xs.length cap) ((xs.set f (giveB xs[f] (-n1))).set t (giveB xs[t] n1)) := hrow
      clear hrow
      have hfl2 : f < ((xs.set f (giveB xs[f] (-n1))).set t (giveB xs[t] n1)).length := by simpa using hfl
      have htl2 : t < ((xs.set f (giveB xs[f] (-n1))).set t (giveB xs[t] n1)).length := by simpa using htl
      have HR3 := Lib.hid R
      have hgl := R.own_lt (g := g) rfl
      have hgb := R.own_ge (g := g) rfl
      clear R
      go_wp2
      rw [kitIx_1]
      go_wp2_with (go_at_call 50; refine (kit_any g (t * 7) _).mono ?_; rintro e w5 ⟨rfl, hb5⟩)
      rw [kitIx_1]
      have R5 := HR3.out.below hb5
      have hbel := Bel.trans hbel hb5
      have hgl5 := R5.own_lt (g := g) rfl
      have p1 := Past.cell (Row.at0 (cs := SGroup.cells) (sz := 7) (fun _ => rfl) R5 hfl2 (j := 4) (v := .int .i64 (giveB xs[f] (-n1)).Shovels) (by rw [st_f hfl hne]; rfl)) hgl5
      have p2 := Past.cell (Row.at0 (cs := SGroup.cells) (sz := 7) (fun _ => rfl) R5 hfl2 (j := 1) (v := .int .i64 (giveB xs[f] (-n1)).People) (by rw [st_f hfl hne]; rfl)) hgl5
      have p3 := Past.cell (Row.at0 (cs := SGroup.cells) (sz := 7) (fun _ => rfl) R5 htl2 (j := 4) (v := .int .i64 (giveB xs[t] n1).Shovels) (by rw [st_t htl]; rfl)) hgl5
      have p4 := Past.cell (Row.at0 (cs := SGroup.cells) (sz := 7) (fun _ => rfl) R5 htl2 (j := 1) (v := .int .i64 (giveB xs[t] n1).People) (by rw [st_t htl]; rfl)) hgl5
      try dsimp only [giveB, giveS, giveP] at p1 p2 p3 p4
      have HR5 := Lib.hid R5
      clear R5 HR3
      go_wp2_with fail
      refine wp_region_past (by kernel_rfl) (by kernel_rfl) ?_
      repeat (go_big_quiet_step (fail))
      refine wpQuiet_nil ?_
      intro W6 hw'
      obtain ⟨⟨W_, hb6⟩, hw''⟩ := hw'
      subst hw''
      rw [if_lent, HN2.out]
      -- 1 a, 2 b, 3 j, 4 F, 5 n, 6 give
      have HR6 := HR5.out.below hb6
      have hbel6 := Bel.trans hbel hb6
      have c1 : W6.cell? ⟨g, f * 7 + 4, none⟩ = some (.int .i64 xs[f].Shovels) := p1 ⟨W6, hb6⟩
      have c3 : W6.cell? ⟨g, t * 7 + 4, none⟩ = some (.int .i64 xs[t].Shovels) := p3 ⟨W6, hb6⟩
      have z1 : W6.frozen? ⟨g, f * 7 + 4, none⟩ = false := HR6.free _
      have z3 : W6.frozen? ⟨g, t * 7 + 4, none⟩ = false := HR6.free _
      have hne2 : t ≠ f := fun e => hne e.symm
      have R7 := Row.setF (cs := SGroup.cells) (sz := 7) (fun _ => rfl) (by omega) HR6 (i := f) (j := 4) (y := giveS (giveB xs[f] (-n1)) (-n2)) (u := .int .i64 (xs[f].Shovels - n2)) hfl2 (by omega) (by rw [st_f hfl hne]; simp [SGroup.cells, giveB, giveS, giveP, Int.sub_eq_add_neg])
      rw [st_setf hne] at R7
      have htl3 : t < ((xs.set f (giveS (giveB xs[f] (-n1)) (-n2))).set t (giveB xs[t] n1)).length := by simpa using htl
      have R8 := Row.setF (cs := SGroup.cells) (sz := 7) (fun _ => rfl) (by omega) R7 (i := t) (j := 4) (y := giveS (giveB xs[t] n1) n2) (u := .int .i64 (xs[t].Shovels + n2)) htl3 (by omega) (by rw [st_t htl]; simp [SGroup.cells, giveB, giveS, giveP])
      rw [st_sett] at R8
      have HRn := Lib.hid R8
      have HEn := Lib.hid (Bel.setCell (Bel.setCell hbel6 (p := ⟨g, f * 7 + 4, none⟩) (by show w.heap.size ≤ g; omega) (.int .i64 (xs[f].Shovels - n2))) (p := ⟨g, t * 7 + 4, none⟩) (by show w.heap.size ≤ g; omega) (.int .i64 (xs[t].Shovels + n2)))
      clear p1 p2 p3 p4 HR5 HR6 R7 R8 hb6
      go_wp2
      go_roundw
      case rel => exact ⟨2, by omega, by go_num, HRn.out, HEn.out⟩
      case measure => simp [intOf]
    · skip
      have R : Row SGroup.cells 7 35 wr w1.heap.size (.slice (some ⟨g, 0, none⟩) xs.length cap) ((xs.set f (giveS (giveB xs[f] (-n1)) (-n2))).set t (giveS (giveB xs[t] n1) n2)) := hrow
      clear hrow
      have hfl2 : f < ((xs.set f (giveS (giveB xs[f] (-n1)) (-n2))).set t (giveS (giveB xs[t] n1) n2)).length := by simpa using hfl
      have htl2 : t < ((xs.set f (giveS (giveB xs[f] (-n1)) (-n2))).set t (giveS (giveB xs[t] n1) n2)).length := by simpa using htl
      have HR3 := Lib.hid R
      have hgl := R.own_lt (g := g) rfl
      have hgb := R.own_ge (g := g) rfl
      clear R
      go_wp2
      rw [kitIx_2]
      go_wp2_with (go_at_call 50; refine (kit_any g (t * 7) _).mono ?_; rintro e w5 ⟨rfl, hb5⟩)
      rw [kitIx_2]
      have R5 := HR3.out.below hb5
      have hbel := Bel.trans hbel hb5
      have hgl5 := R5.own_lt (g := g) rfl
      have p1 := Past.cell (Row.at0 (cs := SGroup.cells) (sz := 7) (fun _ => rfl) R5 hfl2 (j := 5) (v := .int .i64 (giveS (giveB xs[f] (-n1)) (-n2)).Probes) (by rw [st_f hfl hne]; rfl)) hgl5
      have p2 := Past.cell (Row.at0 (cs := SGroup.cells) (sz := 7) (fun _ => rfl) R5 hfl2 (j := 1) (v := .int .i64 (giveS (giveB xs[f] (-n1)) (-n2)).People) (by rw [st_f hfl hne]; rfl)) hgl5
      have p3 := Past.cell (Row.at0 (cs := SGroup.cells) (sz := 7) (fun _ => rfl) R5 htl2 (j := 5) (v := .int .i64 (giveS (giveB xs[t] n1) n2).Probes) (by rw [st_t htl]; rfl)) hgl5
      have p4 := Past.cell (Row.at0 (cs := SGroup.cells) (sz := 7) (fun _ => rfl) R5 htl2 (j := 1) (v := .int .i64 (giveS (giveB xs[t] n1) n2).People) (by rw [st_t htl]; rfl)) hgl5
      try dsimp only [giveB, giveS, giveP] at p1 p2 p3 p4
      have HR5 := Lib.hid R5
      clear R5 HR3
      go_wp2_with fail
      refine wp_region_past (by kernel_rfl) (by kernel_rfl) ?_
      repeat (go_big_quiet_step (fail))
      refine wpQuiet_nil ?_
      intro W6 hw'
      obtain ⟨⟨W_, hb6⟩, hw''⟩ := hw'
      subst hw''
      rw [if_lent, HN3.out]
      -- 1 a, 2 b, 3 j, 4 F, 5 n, 6 give
      have HR6 := HR5.out.below hb6
      have hbel6 := Bel.trans hbel hb6
      have c1 : W6.cell? ⟨g, f * 7 + 5, none⟩ = some (.int .i64 xs[f].Probes) := p1 ⟨W6, hb6⟩
      have c3 : W6.cell? ⟨g, t * 7 + 5, none⟩ = some (.int .i64 xs[t].Probes) := p3 ⟨W6, hb6⟩
      have z1 : W6.frozen? ⟨g, f * 7 + 5, none⟩ = false := HR6.free _
      have z3 : W6.frozen? ⟨g, t * 7 + 5, none⟩ = false := HR6.free _
      have hne2 : t ≠ f := fun e => hne e.symm
      have R7 := Row.setF (cs := SGroup.cells) (sz := 7) (fun _ => rfl) (by omega) HR6 (i := f) (j := 5) (y := giveP (giveS (giveB xs[f] (-n1)) (-n2)) (-n3)) (u := .int .i64 (xs[f].Probes - n3)) hfl2 (by omega) (by rw [st_f hfl hne]; simp [SGroup.cells, giveB, giveS, giveP, Int.sub_eq_add_neg])
      rw [st_setf hne] at R7
      have htl3 : t < ((xs.set f (giveP (giveS (giveB xs[f] (-n1)) (-n2)) (-n3))).set t (giveS (giveB xs[t] n1) n2)).length := by simpa using htl
      have R8 := Row.setF (cs := SGroup.cells) (sz := 7) (fun _ => rfl) (by omega) R7 (i := t) (j := 5) (y := giveP (giveS (giveB xs[t] n1) n2) n3) (u := .int .i64 (xs[t].Probes + n3)) htl3 (by omega) (by rw [st_t htl]; simp [SGroup.cells, giveB, giveS, giveP])
      rw [st_sett] at R8
      have HRn := Lib.hid R8
      have HEn := Lib.hid (Bel.setCell (Bel.setCell hbel6 (p := ⟨g, f * 7 + 5, none⟩) (by show w.heap.size ≤ g; omega) (.int .i64 (xs[f].Probes - n3))) (p := ⟨g, t * 7 + 5, none⟩) (by show w.heap.size ≤ g; omega) (.int .i64 (xs[t].Probes + n3)))
      clear p1 p2 p3 p4 HR5 HR6 R7 R8 hb6
      go_wp2
      go_roundw
      case rel => exact ⟨3, by omega, by go_num, HRn.out, HEn.out⟩
      case measure => simp [intOf]
    · have HRF := Lib.hid (show Row SGroup.cells 7 35 wr w1.heap.size (.slice (some ⟨g, 0, none⟩) xs.length cap) ((xs.set f (giveP (giveS (giveB xs[f] (-n1)) (-n2)) (-n3))).set t (giveP (giveS (giveB xs[t] n1) n2) n3)) from hrow)
      clear hrow
      go_wp2
      go_ret2
      rw [HR.out]
      exact ⟨⟨_, rfl, HRF.out.lower hs1⟩, hbel⟩
theorem l24Lent_any (has people other heads : Int) (w : World) (h1 : -100 ≤ has) (h2 : has ≤ 100) (h3 : -100 ≤ people) (h4 : people ≤ 100) (h5 : -100 ≤ other) (h6 : other ≤ 100) (h7 : -100 ≤ heads) (h8 : heads ≤ 100) :
    Calls Try.prog 59 #[.int .i64 has, .int .i64 people, .int .i64 other, .int .i64 heads] w fun e w' => e = .returned (.int .i64 (lentV has people other heads)) ∧ w = w' := by
  go_enter Try.func59, Try.ntmps59
  go_wp2_with (first | (go_at_call 79; refine (l00Min_any _ _ _).mono ?_; rintro e w' ⟨rfl, rfl⟩) | (go_at_call 48; refine (l00Max_any _ _ _).mono ?_; rintro e w' ⟨rfl, rfl⟩))
  go_ret
  exact ⟨rfl, rfl⟩
theorem Past.sameI {P : Program} {f : FuncId} {args : Array Value} {W : World} {k : IntKind} {v b : Int} (x : Past W) (hv : v = b) (h : Calls P f args x.w fun e w' => e = .returned (.int k v) ∧ x.w = w') :
    Calls P f args x.w fun e w'' => e = .returned (.int k b) ∧ ∃ y : Past W, w'' = y.w := Past.same x (hv ▸ h)
theorem sLendKit_any (xs : List SGroup) (b c : Nat) (frm to_ : Int) (w : World) (A : Arr SGroup.cells 7 w b xs) (hn : xs.length ≤ 1048576) (hf : ∀ i (h : i < xs.length), xs[i].Id.size ≤ 9223372036854775807) :
    Calls Try.prog 22 #[.slice (some ⟨b, 0, none⟩) xs.length c, .int .i64 frm, .int .i64 to_] w fun e w' => (∃ v, e = .returned (.tuple #[v, .int .i64 (lkRes xs frm to_).2]) ∧ Row SGroup.cells 7 35 w' w.heap.size v (lkRes xs frm to_).1) ∧ Below w.heap.size w w' := by
  have HA := Lib.hid A
  have HVA := Lib.hid (fun w A => l24Ok_any xs b c w A hn hf)
  clear A hf
  cases hv : vlGroup xs
  · have HR := Lib.hid (lkRes_1 (f := frm) (t := to_) hv)
    rw [hv] at HVA
    clear hv
    go_enter Try.func22, Try.ntmps22
    go_wp2_with (go_at_call 47; refine (HVA.out _ HA.out).mono ?_; rintro e w1 ⟨rfl, hb1⟩)
    go_ret2
    rw [HR.out]
    exact ⟨⟨_, rfl, Row.nil⟩, hb1⟩
  have HV := Lib.hid hv
  have hlen := vlGroup_len hv
  rw [hv] at HVA
  cases h1 : inr 0 ((xs.length : Int) - 1) frm
  · have HR := Lib.hid (lkRes_2 (f := frm) (t := to_) hv (by rw [h1]; rfl))
    have H1 := Lib.hid h1
    clear hv h1
    go_enter Try.func22, Try.ntmps22
    go_wp2_with (first | (go_at_call 47; refine (HVA.out _ HA.out).mono ?_; rintro e w1 ⟨rfl, hb1⟩) | (go_at_call 53; refine (Calls.boolIs H1.out (l00In_any _ _ _ _)).mono ?_; rintro e w' ⟨rfl, rfl⟩))
    go_ret2
    rw [HR.out]
    exact ⟨⟨_, rfl, Row.nil⟩, hb1⟩
  cases h2 : inr 0 ((xs.length : Int) - 1) to_
  · have HR := Lib.hid (lkRes_2 (f := frm) (t := to_) hv (by rw [h2, Bool.and_false]; rfl))
    have H1 := Lib.hid h1
    have H2 := Lib.hid h2
    clear hv h1 h2
    go_enter Try.func22, Try.ntmps22
    go_wp2_with (go_at_call 47; refine (HVA.out _ HA.out).mono ?_; rintro e w1 ⟨rfl, hb1⟩)
    refine (Calls.boolIs H1.out (l00In_any _ _ _ _)).mono ?_
    rintro e w' ⟨rfl, rfl⟩
    go_wp2_with fail
    refine (Calls.boolIs H2.out (l00In_any _ _ _ _)).mono ?_
    rintro e w' ⟨rfl, rfl⟩
    go_wp2
    go_ret2
    rw [HR.out]
    exact ⟨⟨_, rfl, Row.nil⟩, hb1⟩
  by_cases h3 : frm = to_
  · have h3b : (frm == to_) = true := by simpa using h3
    have HR := Lib.hid (lkRes_2 (f := frm) (t := to_) hv (by rw [h3b, Bool.not_true, Bool.and_false]))
    have H1 := Lib.hid h1
    have H2 := Lib.hid h2
    clear hv h1 h2 h3
    go_enter Try.func22, Try.ntmps22
    go_wp2_with (go_at_call 47; refine (HVA.out _ HA.out).mono ?_; rintro e w1 ⟨rfl, hb1⟩)
    refine (Calls.boolIs H1.out (l00In_any _ _ _ _)).mono ?_
    rintro e w' ⟨rfl, rfl⟩
    go_wp2_with fail
    refine (Calls.boolIs H2.out (l00In_any _ _ _ _)).mono ?_
    rintro e w' ⟨rfl, rfl⟩
    go_wp2
    go_ret2
    rw [HR.out]
    exact ⟨⟨_, rfl, Row.nil⟩, hb1⟩
  have h3b : (frm == to_) = false := by simpa using h3
  obtain ⟨hf0, hf1⟩ := inr_bd' h1
  obtain ⟨ht0, ht1⟩ := inr_bd' h2
  obtain ⟨f, rfl⟩ : ∃ f : Nat, frm = (f : Int) := ⟨frm.toNat, by omega⟩
  obtain ⟨t, rfl⟩ : ∃ t : Nat, to_ = (t : Int) := ⟨to_.toNat, by omega⟩
  have hfl : f < xs.length := by omega
  have htl : t < xs.length := by omega
  have hne : f ≠ t := by omega
  have ga := okGroup_bd (vlGroup_ok hv f hfl)
  have gb := okGroup_bd (vlGroup_ok hv t htl)
  obtain ⟨n1, hn1⟩ : ∃ n1, lentV xs[f].Beacons xs[f].People xs[t].Beacons xs[t].People = n1 := ⟨_, rfl⟩
  obtain ⟨n2, hn2⟩ : ∃ n2, lentV xs[f].Shovels xs[f].People xs[t].Shovels xs[t].People = n2 := ⟨_, rfl⟩
  obtain ⟨n3, hn3⟩ : ∃ n3, lentV xs[f].Probes xs[f].People xs[t].Probes xs[t].People = n3 := ⟨_, rfl⟩
  have HR := Lib.hid (lkRes_0 hv hfl htl hne hn1 hn2 hn3)
  have H1 := Lib.hid h1
  have H2 := Lib.hid h2
  have HN1 := Lib.hid hn1
  have HN2 := Lib.hid hn2
  have HN3 := Lib.hid hn3
  have hb1n : 0 ≤ n1 ∧ n1 ≤ 30 := by rw [← hn1]; unfold lentV; omega
  have hb2n : 0 ≤ n2 ∧ n2 ≤ 30 := by rw [← hn2]; unfold lentV; omega
  have hb3n : 0 ≤ n3 ∧ n3 ≤ 30 := by rw [← hn3]; unfold lentV; omega
  clear hv h1 h2 h3 hn1 hn2 hn3
  go_enter Try.func22, Try.ntmps22
  go_wp2_with (go_at_call 47; refine (HVA.out _ HA.out).mono ?_; rintro e w1 ⟨rfl, hb1⟩)
  refine (Calls.boolIs H1.out (l00In_any _ _ _ _)).mono ?_
  rintro e w' ⟨rfl, rfl⟩
  go_wp2_with fail
  refine (Calls.boolIs H2.out (l00In_any _ _ _ _)).mono ?_
  rintro e w' ⟨rfl, rfl⟩
  have hs1 := hb1.size
  have HRE := Lib.hid (Row.empty (cs := SGroup.cells) (sz := 7) (t := 35) (w0 := w1) (B := w1.heap.size) (Nat.le_refl _))
  have HA1 := Lib.hid (HA.out.below (Bel.alloc hb1 (.cells #[] 35)))
  go_wp2_with (at_builtin; refine wpList_appAll rfl _ _ 26 rfl w1.heap.size 35 Try.underlying26 (by kernel_rfl) (.slice (some ⟨w1.heap.size, 0, none⟩) 0 0) xs rfl HRE.out b c rfl HA1.out (by omega) (by simp) ?_; intro v w2 hr2 hb2; rcases hr2.2 with ⟨_, h0⟩ | ⟨g, cap, cur, rfl, h5, h6, h7, h8, h9, h10⟩; (exfalso; omega); have HR0 := Lib.hid hr2; have hgl2 := hr2.own_lt (g := g) rfl; have hgb2 := hr2.own_ge (g := g) rfl; clear hr2 h6 h7 h8 h9 h10 HRE HA1)
  have HR5 := Lib.hid (show Row SGroup.cells 7 35 w2 w1.heap.size (.slice (some ⟨g, 0, none⟩) xs.length cap) ((xs.set f xs[f]).set t xs[t]) by rw [st_0 hfl htl hne]; exact HR0.out)
  have hbel : Below w.heap.size w w2 := (Bel.alloc hb1 _).trans (hb2.mono hs1)
  clear HR0 hgl2 h5 hb2
  have hfl2 : f < ((xs.set f (xs[f])).set t (xs[t])).length := by simpa using hfl
  have htl2 : t < ((xs.set f (xs[f])).set t (xs[t])).length := by simpa using htl
  have hgl5 := HR5.out.own_lt (g := g) rfl
  have hgb := HR5.out.own_ge (g := g) rfl
  have R5 := HR5.out
  have p1 := Past.cell (Row.at0 (cs := SGroup.cells) (sz := 7) (fun _ => rfl) R5 hfl2 (j := 3) (v := .int .i64 (xs[f]).Beacons) (by rw [st_f hfl hne]; rfl)) hgl5
  have p2 := Past.cell (Row.at0 (cs := SGroup.cells) (sz := 7) (fun _ => rfl) R5 hfl2 (j := 1) (v := .int .i64 (xs[f]).People) (by rw [st_f hfl hne]; rfl)) hgl5
  have p3 := Past.cell (Row.at0 (cs := SGroup.cells) (sz := 7) (fun _ => rfl) R5 htl2 (j := 3) (v := .int .i64 (xs[t]).Beacons) (by rw [st_t htl]; rfl)) hgl5
  have p4 := Past.cell (Row.at0 (cs := SGroup.cells) (sz := 7) (fun _ => rfl) R5 htl2 (j := 1) (v := .int .i64 (xs[t]).People) (by rw [st_t htl]; rfl)) hgl5
  try dsimp only [giveB, giveS, giveP] at p1 p2 p3 p4
  clear R5
  refine wp_region_past (by kernel_rfl) (by kernel_rfl) ?_
  repeat (go_big_quiet_step ((go_at_call 59; exact Past.sameI _ HN1.out (l24Lent_any xs[f].Beacons xs[f].People xs[t].Beacons xs[t].People _ (by omega) (by omega) (by omega) (by omega) (by omega) (by omega) (by omega) (by omega)))))
  refine wpQuiet_nil ?_
  intro W6 hw'
  obtain ⟨⟨W_, hb6⟩, hw''⟩ := hw'
  subst hw''
  -- 1 a, 2 b, 3 j, 4 F, 5 n, 6 give
  have HR6 := HR5.out.below hb6
  have hbel6 := Bel.trans hbel hb6
  have c1 : W6.cell? ⟨g, f * 7 + 3, none⟩ = some (.int .i64 xs[f].Beacons) := p1 ⟨W6, hb6⟩
  have c3 : W6.cell? ⟨g, t * 7 + 3, none⟩ = some (.int .i64 xs[t].Beacons) := p3 ⟨W6, hb6⟩
  have z1 : W6.frozen? ⟨g, f * 7 + 3, none⟩ = false := HR6.free _
  have z3 : W6.frozen? ⟨g, t * 7 + 3, none⟩ = false := HR6.free _
  have hne2 : t ≠ f := fun e => hne e.symm
  have R7 := Row.setF (cs := SGroup.cells) (sz := 7) (fun _ => rfl) (by omega) HR6 (i := f) (j := 3) (y := giveB (xs[f]) (-n1)) (u := .int .i64 (xs[f].Beacons - n1)) hfl2 (by omega) (by rw [st_f hfl hne]; simp [SGroup.cells, giveB, giveS, giveP, Int.sub_eq_add_neg])
  rw [st_setf hne] at R7
  have htl3 : t < ((xs.set f (giveB (xs[f]) (-n1))).set t (xs[t])).length := by simpa using htl
  have R8 := Row.setF (cs := SGroup.cells) (sz := 7) (fun _ => rfl) (by omega) R7 (i := t) (j := 3) (y := giveB (xs[t]) n1) (u := .int .i64 (xs[t].Beacons + n1)) htl3 (by omega) (by rw [st_t htl]; simp [SGroup.cells, giveB, giveS, giveP])
  rw [st_sett] at R8
  have HRn := Lib.hid R8
  have HEn := Lib.hid (Bel.setCell (Bel.setCell hbel6 (p := ⟨g, f * 7 + 3, none⟩) (by show w.heap.size ≤ g; omega) (.int .i64 (xs[f].Beacons - n1))) (p := ⟨g, t * 7 + 3, none⟩) (by show w.heap.size ≤ g; omega) (.int .i64 (xs[t].Beacons + n1)))
  clear p1 p2 p3 p4 HR5 HR6 R7 R8 hb6
  go_wp2_with fail
  generalize (W6.setCell ⟨g, f * 7 + 3, none⟩ (.int .i64 (xs[f].Beacons - n1))).setCell ⟨g, t * 7 + 3, none⟩ (.int .i64 (xs[t].Beacons + n1)) = wn at HRn HEn ⊢
  have HR5 := HRn
  clear HRn
  have hbel := HEn.out
  clear HEn hfl2 htl2 htl3 hbel6 c1 c3 z1 z3 hgl5 hgb
  try clear W6
  have hfl2 : f < ((xs.set f (giveB xs[f] (-n1))).set t (giveB xs[t] n1)).length := by simpa using hfl
  have htl2 : t < ((xs.set f (giveB xs[f] (-n1))).set t (giveB xs[t] n1)).length := by simpa using htl
  have hgl5 := HR5.out.own_lt (g := g) rfl
  have hgb := HR5.out.own_ge (g := g) rfl
  have R5 := HR5.out
  have p1 := Past.cell (Row.at0 (cs := SGroup.cells) (sz := 7) (fun _ => rfl) R5 hfl2 (j := 4) (v := .int .i64 (giveB xs[f] (-n1)).Shovels) (by rw [st_f hfl hne]; rfl)) hgl5
  have p2 := Past.cell (Row.at0 (cs := SGroup.cells) (sz := 7) (fun _ => rfl) R5 hfl2 (j := 1) (v := .int .i64 (giveB xs[f] (-n1)).People) (by rw [st_f hfl hne]; rfl)) hgl5
  have p3 := Past.cell (Row.at0 (cs := SGroup.cells) (sz := 7) (fun _ => rfl) R5 htl2 (j := 4) (v := .int .i64 (giveB xs[t] n1).Shovels) (by rw [st_t htl]; rfl)) hgl5
  have p4 := Past.cell (Row.at0 (cs := SGroup.cells) (sz := 7) (fun _ => rfl) R5 htl2 (j := 1) (v := .int .i64 (giveB xs[t] n1).People) (by rw [st_t htl]; rfl)) hgl5
  try dsimp only [giveB, giveS, giveP] at p1 p2 p3 p4
  clear R5
  refine wp_region_past (by kernel_rfl) (by kernel_rfl) ?_
  repeat (go_big_quiet_step ((go_at_call 59; exact Past.sameI _ HN2.out (l24Lent_any xs[f].Shovels xs[f].People xs[t].Shovels xs[t].People _ (by omega) (by omega) (by omega) (by omega) (by omega) (by omega) (by omega) (by omega)))))
  refine wpQuiet_nil ?_
  intro W6 hw'
  obtain ⟨⟨W_, hb6⟩, hw''⟩ := hw'
  subst hw''
  -- 1 a, 2 b, 3 j, 4 F, 5 n, 6 give
  have HR6 := HR5.out.below hb6
  have hbel6 := Bel.trans hbel hb6
  have c1 : W6.cell? ⟨g, f * 7 + 4, none⟩ = some (.int .i64 xs[f].Shovels) := p1 ⟨W6, hb6⟩
  have c3 : W6.cell? ⟨g, t * 7 + 4, none⟩ = some (.int .i64 xs[t].Shovels) := p3 ⟨W6, hb6⟩
  have z1 : W6.frozen? ⟨g, f * 7 + 4, none⟩ = false := HR6.free _
  have z3 : W6.frozen? ⟨g, t * 7 + 4, none⟩ = false := HR6.free _
  have hne2 : t ≠ f := fun e => hne e.symm
  have R7 := Row.setF (cs := SGroup.cells) (sz := 7) (fun _ => rfl) (by omega) HR6 (i := f) (j := 4) (y := giveS (giveB xs[f] (-n1)) (-n2)) (u := .int .i64 (xs[f].Shovels - n2)) hfl2 (by omega) (by rw [st_f hfl hne]; simp [SGroup.cells, giveB, giveS, giveP, Int.sub_eq_add_neg])
  rw [st_setf hne] at R7
  have htl3 : t < ((xs.set f (giveS (giveB xs[f] (-n1)) (-n2))).set t (giveB xs[t] n1)).length := by simpa using htl
  have R8 := Row.setF (cs := SGroup.cells) (sz := 7) (fun _ => rfl) (by omega) R7 (i := t) (j := 4) (y := giveS (giveB xs[t] n1) n2) (u := .int .i64 (xs[t].Shovels + n2)) htl3 (by omega) (by rw [st_t htl]; simp [SGroup.cells, giveB, giveS, giveP])
  rw [st_sett] at R8
  have HRn := Lib.hid R8
  have HEn := Lib.hid (Bel.setCell (Bel.setCell hbel6 (p := ⟨g, f * 7 + 4, none⟩) (by show w.heap.size ≤ g; omega) (.int .i64 (xs[f].Shovels - n2))) (p := ⟨g, t * 7 + 4, none⟩) (by show w.heap.size ≤ g; omega) (.int .i64 (xs[t].Shovels + n2)))
  clear p1 p2 p3 p4 HR5 HR6 R7 R8 hb6
  go_wp2_with fail
  generalize (W6.setCell ⟨g, f * 7 + 4, none⟩ (.int .i64 (xs[f].Shovels - n2))).setCell ⟨g, t * 7 + 4, none⟩ (.int .i64 (xs[t].Shovels + n2)) = wn at HRn HEn ⊢
  have HR5 := HRn
  clear HRn
  have hbel := HEn.out
  clear HEn hfl2 htl2 htl3 hbel6 c1 c3 z1 z3 hgl5 hgb
  try clear W6
  have hfl2 : f < ((xs.set f (giveS (giveB xs[f] (-n1)) (-n2))).set t (giveS (giveB xs[t] n1) n2)).length := by simpa using hfl
  have htl2 : t < ((xs.set f (giveS (giveB xs[f] (-n1)) (-n2))).set t (giveS (giveB xs[t] n1) n2)).length := by simpa using htl
  have hgl5 := HR5.out.own_lt (g := g) rfl
  have hgb := HR5.out.own_ge (g := g) rfl
  have R5 := HR5.out
  have p1 := Past.cell (Row.at0 (cs := SGroup.cells) (sz := 7) (fun _ => rfl) R5 hfl2 (j := 5) (v := .int .i64 (giveS (giveB xs[f] (-n1)) (-n2)).Probes) (by rw [st_f hfl hne]; rfl)) hgl5
  have p2 := Past.cell (Row.at0 (cs := SGroup.cells) (sz := 7) (fun _ => rfl) R5 hfl2 (j := 1) (v := .int .i64 (giveS (giveB xs[f] (-n1)) (-n2)).People) (by rw [st_f hfl hne]; rfl)) hgl5
  have p3 := Past.cell (Row.at0 (cs := SGroup.cells) (sz := 7) (fun _ => rfl) R5 htl2 (j := 5) (v := .int .i64 (giveS (giveB xs[t] n1) n2).Probes) (by rw [st_t htl]; rfl)) hgl5
  have p4 := Past.cell (Row.at0 (cs := SGroup.cells) (sz := 7) (fun _ => rfl) R5 htl2 (j := 1) (v := .int .i64 (giveS (giveB xs[t] n1) n2).People) (by rw [st_t htl]; rfl)) hgl5
  try dsimp only [giveB, giveS, giveP] at p1 p2 p3 p4
  clear R5
  refine wp_region_past (by kernel_rfl) (by kernel_rfl) ?_
  repeat (go_big_quiet_step ((go_at_call 59; exact Past.sameI _ HN3.out (l24Lent_any xs[f].Probes xs[f].People xs[t].Probes xs[t].People _ (by omega) (by omega) (by omega) (by omega) (by omega) (by omega) (by omega) (by omega)))))
  refine wpQuiet_nil ?_
  intro W6 hw'
  obtain ⟨⟨W_, hb6⟩, hw''⟩ := hw'
  subst hw''
  -- 1 a, 2 b, 3 j, 4 F, 5 n, 6 give
  have HR6 := HR5.out.below hb6
  have hbel6 := Bel.trans hbel hb6
  have c1 : W6.cell? ⟨g, f * 7 + 5, none⟩ = some (.int .i64 xs[f].Probes) := p1 ⟨W6, hb6⟩
  have c3 : W6.cell? ⟨g, t * 7 + 5, none⟩ = some (.int .i64 xs[t].Probes) := p3 ⟨W6, hb6⟩
  have z1 : W6.frozen? ⟨g, f * 7 + 5, none⟩ = false := HR6.free _
  have z3 : W6.frozen? ⟨g, t * 7 + 5, none⟩ = false := HR6.free _
  have hne2 : t ≠ f := fun e => hne e.symm
  have R7 := Row.setF (cs := SGroup.cells) (sz := 7) (fun _ => rfl) (by omega) HR6 (i := f) (j := 5) (y := giveP (giveS (giveB xs[f] (-n1)) (-n2)) (-n3)) (u := .int .i64 (xs[f].Probes - n3)) hfl2 (by omega) (by rw [st_f hfl hne]; simp [SGroup.cells, giveB, giveS, giveP, Int.sub_eq_add_neg])
  rw [st_setf hne] at R7
  have htl3 : t < ((xs.set f (giveP (giveS (giveB xs[f] (-n1)) (-n2)) (-n3))).set t (giveS (giveB xs[t] n1) n2)).length := by simpa using htl
  have R8 := Row.setF (cs := SGroup.cells) (sz := 7) (fun _ => rfl) (by omega) R7 (i := t) (j := 5) (y := giveP (giveS (giveB xs[t] n1) n2) n3) (u := .int .i64 (xs[t].Probes + n3)) htl3 (by omega) (by rw [st_t htl]; simp [SGroup.cells, giveB, giveS, giveP])
  rw [st_sett] at R8
  have HRn := Lib.hid R8
  have HEn := Lib.hid (Bel.setCell (Bel.setCell hbel6 (p := ⟨g, f * 7 + 5, none⟩) (by show w.heap.size ≤ g; omega) (.int .i64 (xs[f].Probes - n3))) (p := ⟨g, t * 7 + 5, none⟩) (by show w.heap.size ≤ g; omega) (.int .i64 (xs[t].Probes + n3)))
  clear p1 p2 p3 p4 HR5 HR6 R7 R8 hb6
  go_wp2
  go_ret2
  rw [HR.out]
  exact ⟨⟨_, rfl, HRn.out.lower hs1⟩, HEn.out⟩
end Go.Proofs.Ytinijfdopkohfaa
