/- Chapter 24: a group is divided: the program's walk. -/
import Derived.Test.YtfbnckgfgaddkaaL24s
import Derived.Test.YtfbnckgfgaddkaaAllWA
import Derived.Test.YtfbnckgfgaddkaaLst
namespace Go.Proofs.Ytfbnckgfgaddkaa
set_option linter.unusedSimpArgs false
set_option linter.unusedVariables false
open Go.RowKit
set_option maxHeartbeats 1600000
set_option maxRecDepth 100000
theorem wpList_pushGr {P : Program} {ops : Array Oper} {rest : List Oper} {o : Oper} {a : Act} {Q : Exit → Act → World → Prop} {w : World} (hgd : o.guard = none) (s x : Operand) (t : TypeId)
    (ho : o.op = .call { callee := .builtin .append, args := #[s, x], argTypes := #[t, t] }) (base : Nat) (e : TypeId) (ht : P.underlying t = some (.slice e))
    (hi : (P.info? e).map (fun i => (i.zero, i.size, i.bytes)) = some (some (.agg #[.string ⟨#[]⟩, .int .i64 0, .int .i64 0, .int .i64 0, .int .i64 0, .int .i64 0, .int .i64 0]), 7, 64))
    (v : Value) (ys : List SGroup) (y : SGroup) (hs : a.eval s = v) (R : Row SGroup.cells 7 e w base v ys) (c : Nat) (hx : a.eval x = .slice (some ⟨w.heap.size, 0, none⟩) 1 c) (hn : ys.length ≤ 1048577) (hbase : base ≤ w.heap.size)
    (h : ∀ v' w', Row SGroup.cells 7 e w' base v' (ys ++ [y]) → Below base w w' → wpList P ops Q rest (a.put o.dst v') w') :
    wpList P ops Q (o :: rest) a (w.alloc (.cells #[.string y.Id, .int .i64 y.People, .int .i64 y.Guides, .int .i64 y.Beacons, .int .i64 y.Shovels, .int .i64 y.Probes, .int .i64 y.Skill] e)) := by
  refine wpList_push hgd s x t ho base e (.agg #[.string ⟨#[]⟩, .int .i64 0, .int .i64 0, .int .i64 0, .int .i64 0, .int .i64 0, .int .i64 0]) 7 64 ht hi rfl (by decide) (by decide) SGroup.cells v ys y hs (R.alloc _) w.heap.size c hx rfl (fun j u hu => ?_) (fun u hu => ?_) hn (by simp; omega) fun v' w' hr hg hb => h v' w' hr ?_
  · rw [(Box.new w e #[.string y.Id, .int .i64 y.People, .int .i64 y.Guides, .int .i64 y.Beacons, .int .i64 y.Shovels, .int .i64 y.Probes, .int .i64 y.Skill]).cell j]; simpa [SGroup.cells] using hu
  · simp only [SGroup.cells, List.mem_cons, List.not_mem_nil, or_false] at hu
    rcases hu with rfl | rfl | rfl | rfl | rfl | rfl | rfl <;> rfl
  · exact ((Below.refl base w).alloc hbase _).trans hb
theorem okGroup_size {x : SGroup} (h : okGroup x = true) : x.Id.size ≤ 10 := by
  have h1 : isName x.Id = true := by
    simp only [okGroup, Bool.and_eq_true] at h
    exact h.1.1.1.1
  unfold isName at h1
  split at h1
  · simp only [Bool.and_eq_true, decide_eq_true_eq] at h1
    exact h1.1.1
  · cases h1
def okTo (x : SGroup) (m : Int) (k : Nat) : Bool := (List.range k).all fun i => okGroup (partG x m i)
theorem okTo_step (x : SGroup) (m : Int) (k : Nat) : okTo x m (k + 1) = (okTo x m k && okGroup (partG x m k)) := by simp [okTo, List.range_succ]
theorem okTo_no {x : SGroup} {m : Int} {k n : Nat} (hk : k < n) (h : okGroup (partG x m k) = false) : okTo x m n = false := by
  rw [okTo, List.all_eq_false]
  exact ⟨k, List.mem_range.2 hk, by rw [h]; simp⟩
def spL (x : SGroup) (m : Int) (k : Nat) : List SGroup := (List.range k).map (partG x m)
theorem spL_snoc (x : SGroup) (m : Int) (k : Nat) : spL x m (k + 1) = spL x m k ++ [partG x m k] := by simp [spL, List.range_succ]
theorem spL_len (x : SGroup) (m : Int) (k : Nat) : (spL x m k).length = k := by simp [spL]
def spRes (x : SGroup) (m : Int) : List SGroup × Int :=
  if okGroup x then (if inr 2 (min x.People 4) m then (if okTo x m m.toNat then (spL x m m.toNat, 0) else ([], 6)) else ([], 2)) else ([], 1)
theorem spRes_1 {x : SGroup} {m : Int} (h : okGroup x = false) : spRes x m = ([], 1) := by rw [spRes, if_neg (by rw [h]; simp)]
theorem spRes_2 {x : SGroup} {m : Int} (h : okGroup x = true) (h2 : inr 2 (min x.People 4) m = false) : spRes x m = ([], 2) := by rw [spRes, if_pos h, if_neg (by rw [h2]; simp)]
theorem spRes_6 {x : SGroup} {m : Int} {k n : Nat} (h : okGroup x = true) (h2 : inr 2 (min x.People 4) m = true) (hm : m = n) (hk : k < n) (h3 : okGroup (partG x m k) = false) : spRes x m = ([], 6) := by
  rw [spRes, if_pos h, if_pos h2, if_neg (by rw [okTo_no (n := m.toNat) (by omega) h3]; simp)]
theorem spRes_0 {x : SGroup} {m : Int} {n : Nat} (h : okGroup x = true) (h2 : inr 2 (min x.People 4) m = true) (hm : m = n) (h3 : okTo x m n = true) : spRes x m = (spL x m n, 0) := by
  rw [spRes, if_pos h, if_pos h2, show m.toNat = n by omega, if_pos h3]
theorem spRes_len {x : SGroup} {m : Int} : (spRes x m).1.length ≤ 4 := by
  unfold spRes
  split
  · split
    · rename_i h2
      have := inr_bd' h2
      split
      · rw [spL_len]; omega
      · simp
    · simp
  · simp
theorem bs_run {ρ : Operand → Value} {dst : Option Tmp} {ty : TypeId} {pos : String} {after : Array Edge} {gd : Option (Nat × Bool)} {y : Operand} {c : Int} (h : ρ y = .int .u8 c) (Y : World) :
    (execOp ρ ⟨dst, .buildSlice 54 1 #[(0, y)], ty, pos, after, gd⟩).run Try.prog Y = .ok (.value (.slice (some ⟨Y.heap.size, 0, none⟩) 1 1)) (Y.alloc (.cells #[.int .u8 c] 5)) := by
  simp [execOp, go_sem, h]
theorem al_run {ρ : Operand → Value} {dst : Option Tmp} {ty : TypeId} {pos : String} {after : Array Edge} {gd : Option (Nat × Bool)} (Y : World) :
    (execOp ρ ⟨dst, .alloc 35, ty, pos, after, gd⟩).run Try.prog Y = .ok (.value (.pointer (some ⟨Y.heap.size, 0, none⟩))) (Y.alloc (.cells #[.string ⟨#[]⟩, .int .i64 0, .int .i64 0, .int .i64 0, .int .i64 0, .int .i64 0, .int .i64 0] 35)) := by
  simp [execOp, go_sem]
theorem cv_run {ρ : Operand → Value} {dst : Option Tmp} {ty : TypeId} {pos : String} {after : Array Edge} {gd : Option (Nat × Bool)} {y : Operand} {g k : Nat} (h : ρ y = .slice (some ⟨g, 0, none⟩) 1 1) (Y : World) (hk : k ≤ 100) (hc : Y.cell? ⟨g, 0, none⟩ = some (.int .u8 (97 + (k : Int)))) :
    (execOp ρ ⟨dst, .convert 54 9 y, ty, pos, after, gd⟩).run Try.prog Y = .ok (.value (.string (letterS k))) Y := by
  have hl : (UInt8.ofNat (97 + k)).toNat = 97 + k := letter_nat hk
  have := run_convert_bytes_back (P := Try.prog) Y 54 9 5 ⟨g, 0, none⟩ 1 [UInt8.ofNat (97 + k)] Try.underlying54 Try.underlying5 Try.underlying9 (fun i hi => by
    have : i = 0 := by simpa using hi
    subst this
    simp only [List.getElem_cons_zero, hl]
    exact hc)
  simp only [List.length_singleton] at this
  simp [execOp, go_sem, h, this, letterS]
theorem SplitGroup_any (x : SGroup) (m : Int) (w : World) (hs' : x.Id.size ≤ 9223372036854775807) :
    Calls Try.prog 13 #[.agg #[.string x.Id, .int .i64 x.People, .int .i64 x.Guides, .int .i64 x.Beacons, .int .i64 x.Shovels, .int .i64 x.Probes, .int .i64 x.Skill], .int .i64 m] w fun e w' => (∃ v, e = .returned (.tuple #[v, .int .i64 (spRes x m).2]) ∧ Row SGroup.cells 7 35 w' w.heap.size v (spRes x m).1) ∧ Below w.heap.size w w' := by
  cases hv : okGroup x
  · have HV := Lib.hid hv
    clear hv
    go_enter Try.func13, Try.ntmps13
    go_wp2_with (go_at_call 27; refine calls_box_out2 ?_; intro W hbw B1 B2; refine (Calls.boolIs HV.out (validGroup_any x _ hs')).mono ?_; rintro e w1 ⟨rfl, hb1⟩)
    go_ret2
    rw [spRes_1 HV.out]
    exact ⟨⟨_, rfl, Row.nil⟩, Bel.trans hbw hb1⟩
  have hbd := okGroup_bd hv
  have hs : x.Id.size ≤ 10 := okGroup_size hv
  have HV := Lib.hid hv
  clear hv
  obtain ⟨lim, hmin⟩ : ∃ lim, (if (4 : Int) < x.People then (4 : Int) else x.People) = lim := ⟨_, rfl⟩
  have hlim : min x.People 4 = lim := by rw [← hmin]; split <;> omega
  cases hq : inr 2 (min x.People 4) m
  · have HQ2 := Lib.hid hq
    rw [hlim] at hq
    have HQ := Lib.hid hq
    clear hq hlim
    go_enter Try.func13, Try.ntmps13
    go_wp2_with fail
    refine calls_box_out2 ?_
    intro W hbw B1 B2
    refine (Calls.boolIs HV.out (validGroup_any x _ hs')).mono ?_
    rintro e w1 ⟨rfl, hb1⟩
    have B1 := B1.below hb1
    have B2 := B2.below hb1
    have hbw := Bel.trans hbw hb1
    have c0 : w1.cell? ⟨w.heap.size, 0, none⟩ = some (.string x.Id) := B1.cell 0
    have c1 : w1.cell? ⟨w.heap.size, 1, none⟩ = some (.int .i64 x.People) := B1.cell 1
    have c2 : w1.cell? ⟨w.heap.size, 2, none⟩ = some (.int .i64 x.Guides) := B1.cell 2
    have c3 : w1.cell? ⟨w.heap.size, 3, none⟩ = some (.int .i64 x.Beacons) := B1.cell 3
    have c4 : w1.cell? ⟨w.heap.size, 4, none⟩ = some (.int .i64 x.Shovels) := B1.cell 4
    have c5 : w1.cell? ⟨w.heap.size, 5, none⟩ = some (.int .i64 x.Probes) := B1.cell 5
    have c6 : w1.cell? ⟨w.heap.size, 6, none⟩ = some (.int .i64 x.Skill) := B1.cell 6
    have d0 : w1.cell? ⟨w.heap.size + 1, 0, none⟩ = some (.int .i64 m) := B2.cell 0
    clear B1 B2 hb1
    go_wp2_with (go_at_call 20; refine (Calls.boolIs HQ.out (within_any _ _ _ _)).mono ?_; rintro e w' ⟨rfl, rfl⟩)
    go_ret2
    rw [spRes_2 HV.out HQ2.out]
    exact ⟨⟨_, rfl, Row.nil⟩, hbw⟩
  obtain ⟨hm2, hm4⟩ := inr_bd' hq
  obtain ⟨n, rfl⟩ := Int.eq_ofNat_of_zero_le (show 0 ≤ m by omega)
  have hn4 : n ≤ 4 := by omega
  have HQ2 := Lib.hid hq
  rw [hlim] at hq
  have HQ := Lib.hid hq
  clear hq hlim
  go_enter Try.func13, Try.ntmps13
  go_wp2_with fail
  refine calls_box_out2 ?_
  intro W hbw B1 B2
  refine (Calls.boolIs HV.out (validGroup_any x _ hs')).mono ?_
  rintro e w1 ⟨rfl, hb1⟩
  have B1 := B1.below hb1
  have B2 := B2.below hb1
  have hbw := Bel.trans hbw hb1
  have HB1 := Lib.hid B1
  have HB2 := Lib.hid B2
  have c0 : w1.cell? ⟨w.heap.size, 0, none⟩ = some (.string x.Id) := B1.cell 0
  have c1 : w1.cell? ⟨w.heap.size, 1, none⟩ = some (.int .i64 x.People) := B1.cell 1
  have c2 : w1.cell? ⟨w.heap.size, 2, none⟩ = some (.int .i64 x.Guides) := B1.cell 2
  have c3 : w1.cell? ⟨w.heap.size, 3, none⟩ = some (.int .i64 x.Beacons) := B1.cell 3
  have c4 : w1.cell? ⟨w.heap.size, 4, none⟩ = some (.int .i64 x.Shovels) := B1.cell 4
  have c5 : w1.cell? ⟨w.heap.size, 5, none⟩ = some (.int .i64 x.Probes) := B1.cell 5
  have c6 : w1.cell? ⟨w.heap.size, 6, none⟩ = some (.int .i64 x.Skill) := B1.cell 6
  have d0 : w1.cell? ⟨w.heap.size + 1, 0, none⟩ = some (.int .i64 n) := B2.cell 0
  have hl2 := B2.lt
  clear B1 B2 hb1
  go_wp2_with (go_at_call 20; refine (Calls.boolIs HQ.out (within_any _ _ _ _)).mono ?_; rintro e w' ⟨rfl, rfl⟩)
  clear c0 c1 c2 c3 c4 c5 c6 d0 hmin
  go_loopw [6, 7, 8, 9, 22] (fun v _ _ _ i wr => ∃ k : Nat, k ≤ n ∧ i = .int .i64 k ∧ Row SGroup.cells 7 35 wr w1.heap.size v (spL x n k) ∧ okTo x n k = true ∧ Below w1.heap.size w1 wr) (fun _ _ _ _ i wr => n - (intOf i).toNat)
  case atStart => exact ⟨0, by omega, rfl, Row.nil, rfl, Below.refl _ _⟩
  case round =>
    obtain ⟨k, hk, rfl, R, hok, hb⟩ := hrel
    have HOK := Lib.hid hok
    have HR := Lib.hid R
    clear hok R
    by_cases hlt : k < n
    · have hk3 : k ≤ 3 := by omega
      go_upto_region 10 with fail
      refine wp_box_out ?_
      intro W1 hb1 BK
      have hbW := Bel.trans hb hb1
      have B1 := HB1.out.below hbW
      have B2 := HB2.out.below hbW
      have hgW := BK.lt
      obtain ⟨Y1, hY1⟩ : ∃ Y, W1.alloc (.cells #[.int .u8 (97 + (k : Int))] 5) = Y := ⟨_, rfl⟩
      obtain ⟨Y2, hY2⟩ : ∃ Y, W1.alloc (.cells #[.string ⟨#[]⟩, .int .i64 0, .int .i64 0, .int .i64 0, .int .i64 0, .int .i64 0, .int .i64 0] 35) = Y := ⟨_, rfl⟩
      obtain ⟨Y3, hY3⟩ : ∃ Y, Y1.alloc (.cells #[.string ⟨#[]⟩, .int .i64 0, .int .i64 0, .int .i64 0, .int .i64 0, .int .i64 0, .int .i64 0] 35) = Y := ⟨_, rfl⟩
      obtain ⟨Y4, hY4⟩ : ∃ Y, Y2.alloc (.cells #[.int .u8 (97 + (k : Int))] 5) = Y := ⟨_, rfl⟩
      have b1 : Below W1.heap.size W1 Y1 := hY1 ▸ Bel.alloc (Below.refl _ _) _
      have b2 : Below W1.heap.size W1 Y2 := hY2 ▸ Bel.alloc (Below.refl _ _) _
      have b3 : Below W1.heap.size W1 Y3 := hY3 ▸ Bel.alloc b1 _
      have b4 : Below W1.heap.size W1 Y4 := hY4 ▸ Bel.alloc b2 _
      have HY1 := Lib.hid hY1
      have HY2 := Lib.hid hY2
      have HY3 := Lib.hid hY3
      have HY4 := Lib.hid hY4
      have HB1' := Lib.hid B1
      have HB2' := Lib.hid B2
      have HBK := Lib.hid BK
      clear hY1 hY2 hY3 hY4 B1 B2 BK
      have hls : (letterS k).size ≤ 1 := by rw [letterS_size]; exact Nat.le_refl _
      have hu8 : IntKind.u8.wrap (97 + (k : Int)) = 97 + (k : Int) := by rw [IntKind.wrap_u8]; omega
      apply wp_region_three_tail (P := Try.prog) (C := fun φ u => ∃ j : Nat, u = (match φ with | 0 => W1 | 1 => Y1 | 2 => Y2 | 3 => Y3 | _ => Y4).drewN j) 32 5 31 6 (fun b => .slice (some ⟨if b = true then W1.heap.size + 1 else W1.heap.size, 0, none⟩) 1 1) (fun b => .pointer (some ⟨if b = true then W1.heap.size else W1.heap.size + 1, 0, none⟩)) (.string (letterS k)) (A := two _ _) (xp := 31) (xq := 9) (xr := 32)
      case hm => kernel_rfl
      case hB => kernel_rfl
      case hB' => intro b; cases b <;> kernel_rfl
      case hp => rfl
      case hq => rfl
      case hr => rfl
      case hxp => rfl
      case hxq => rfl
      case hxr => rfl
      case hC => exact Exists.intro 1 rfl
      case hw =>
        intro ψ hψ
        obtain h | h | h | h | h : ψ = 0 ∨ ψ = 1 ∨ ψ = 2 ∨ ψ = 3 ∨ ψ = 4 := by omega
        · subst h
          have B1 := HB1'.out.below (Below.refl _ _)
          have B2 := HB2'.out.below (Below.refl _ _)
          have BK := HBK.out.below (Below.refl _ _)
          have c0 : W1.cell? ⟨w.heap.size, 0, none⟩ = some (.string x.Id) := B1.cell 0
          have c1 : W1.cell? ⟨w.heap.size, 1, none⟩ = some (.int .i64 x.People) := B1.cell 1
          have c2 : W1.cell? ⟨w.heap.size, 2, none⟩ = some (.int .i64 x.Guides) := B1.cell 2
          have c3 : W1.cell? ⟨w.heap.size, 3, none⟩ = some (.int .i64 x.Beacons) := B1.cell 3
          have c4 : W1.cell? ⟨w.heap.size, 4, none⟩ = some (.int .i64 x.Shovels) := B1.cell 4
          have c5 : W1.cell? ⟨w.heap.size, 5, none⟩ = some (.int .i64 x.Probes) := B1.cell 5
          have c6 : W1.cell? ⟨w.heap.size, 6, none⟩ = some (.int .i64 x.Skill) := B1.cell 6
          have d0 : W1.cell? ⟨w.heap.size + 1, 0, none⟩ = some (.int .i64 n) := B2.cell 0
          have e0 : W1.cell? ⟨wr.heap.size, 0, none⟩ = some (.int .i64 k) := BK.cell 0
          have HC : Hid (∀ (v : Int) (j : Nat), 0 ≤ v → v ≤ 30 → Calls Try.prog 28 #[.int .i64 v, .pointer (some ⟨wr.heap.size, 0, none⟩), .pointer (some ⟨w.heap.size + 1, 0, none⟩)] (W1.drewN j) fun e w'' => e = .returned (.int .i64 (shr v k n)) ∧ ∃ m, w'' = W1.drewN m) := Lib.hid fun v j h0 h1 => quiet_drew (share_any v n k _ _ _ e0 d0 h0 h1 hk3 hm2 (by omega))
          clear B1 B2 BK
          change wpQuiet Try.prog (gh3 _ 5 31 6 (.slice (some ⟨W1.heap.size, 0, none⟩) 1 1) (.pointer (some ⟨W1.heap.size + 1, 0, none⟩)) (.string (letterS k))).toArray (fun u => ∃ j : Nat, u = W1.drewN j) _ ((gh3 _ 5 31 6 (.slice (some ⟨W1.heap.size, 0, none⟩) 1 1) (.pointer (some ⟨W1.heap.size + 1, 0, none⟩)) (.string (letterS k))).take 32) _
          simp only [gh3, gh, ghost, List.take_succ_cons, List.take_zero]
          repeat (go_big_quiet_step ((go_at_call 28; exact HC.out _ _ (by omega) (by omega))))
          refine wpQuiet_nil ?_
          exact rfl
        · subst h
          have B1 := HB1'.out.below b1
          have B2 := HB2'.out.below b1
          have BK := HBK.out.below b1
          have c0 : Y1.cell? ⟨w.heap.size, 0, none⟩ = some (.string x.Id) := B1.cell 0
          have c1 : Y1.cell? ⟨w.heap.size, 1, none⟩ = some (.int .i64 x.People) := B1.cell 1
          have c2 : Y1.cell? ⟨w.heap.size, 2, none⟩ = some (.int .i64 x.Guides) := B1.cell 2
          have c3 : Y1.cell? ⟨w.heap.size, 3, none⟩ = some (.int .i64 x.Beacons) := B1.cell 3
          have c4 : Y1.cell? ⟨w.heap.size, 4, none⟩ = some (.int .i64 x.Shovels) := B1.cell 4
          have c5 : Y1.cell? ⟨w.heap.size, 5, none⟩ = some (.int .i64 x.Probes) := B1.cell 5
          have c6 : Y1.cell? ⟨w.heap.size, 6, none⟩ = some (.int .i64 x.Skill) := B1.cell 6
          have d0 : Y1.cell? ⟨w.heap.size + 1, 0, none⟩ = some (.int .i64 n) := B2.cell 0
          have e0 : Y1.cell? ⟨wr.heap.size, 0, none⟩ = some (.int .i64 k) := BK.cell 0
          have HC : Hid (∀ (v : Int) (j : Nat), 0 ≤ v → v ≤ 30 → Calls Try.prog 28 #[.int .i64 v, .pointer (some ⟨wr.heap.size, 0, none⟩), .pointer (some ⟨w.heap.size + 1, 0, none⟩)] (Y1.drewN j) fun e w'' => e = .returned (.int .i64 (shr v k n)) ∧ ∃ m, w'' = Y1.drewN m) := Lib.hid fun v j h0 h1 => quiet_drew (share_any v n k _ _ _ e0 d0 h0 h1 hk3 hm2 (by omega))
          clear B1 B2 BK
          change wpQuiet Try.prog (gh3 _ 5 31 6 (.slice (some ⟨W1.heap.size, 0, none⟩) 1 1) (.pointer (some ⟨W1.heap.size + 1, 0, none⟩)) (.string (letterS k))).toArray (fun u => ∃ j : Nat, u = Y1.drewN j) _ ((gh3 _ 5 31 6 (.slice (some ⟨W1.heap.size, 0, none⟩) 1 1) (.pointer (some ⟨W1.heap.size + 1, 0, none⟩)) (.string (letterS k))).take 32) _
          simp only [gh3, gh, ghost, List.take_succ_cons, List.take_zero]
          repeat (go_big_quiet_step ((go_at_call 28; exact HC.out _ _ (by omega) (by omega))))
          refine wpQuiet_nil ?_
          exact rfl
        · subst h
          have B1 := HB1'.out.below b2
          have B2 := HB2'.out.below b2
          have BK := HBK.out.below b2
          have c0 : Y2.cell? ⟨w.heap.size, 0, none⟩ = some (.string x.Id) := B1.cell 0
          have c1 : Y2.cell? ⟨w.heap.size, 1, none⟩ = some (.int .i64 x.People) := B1.cell 1
          have c2 : Y2.cell? ⟨w.heap.size, 2, none⟩ = some (.int .i64 x.Guides) := B1.cell 2
          have c3 : Y2.cell? ⟨w.heap.size, 3, none⟩ = some (.int .i64 x.Beacons) := B1.cell 3
          have c4 : Y2.cell? ⟨w.heap.size, 4, none⟩ = some (.int .i64 x.Shovels) := B1.cell 4
          have c5 : Y2.cell? ⟨w.heap.size, 5, none⟩ = some (.int .i64 x.Probes) := B1.cell 5
          have c6 : Y2.cell? ⟨w.heap.size, 6, none⟩ = some (.int .i64 x.Skill) := B1.cell 6
          have d0 : Y2.cell? ⟨w.heap.size + 1, 0, none⟩ = some (.int .i64 n) := B2.cell 0
          have e0 : Y2.cell? ⟨wr.heap.size, 0, none⟩ = some (.int .i64 k) := BK.cell 0
          have HC : Hid (∀ (v : Int) (j : Nat), 0 ≤ v → v ≤ 30 → Calls Try.prog 28 #[.int .i64 v, .pointer (some ⟨wr.heap.size, 0, none⟩), .pointer (some ⟨w.heap.size + 1, 0, none⟩)] (Y2.drewN j) fun e w'' => e = .returned (.int .i64 (shr v k n)) ∧ ∃ m, w'' = Y2.drewN m) := Lib.hid fun v j h0 h1 => quiet_drew (share_any v n k _ _ _ e0 d0 h0 h1 hk3 hm2 (by omega))
          clear B1 B2 BK
          change wpQuiet Try.prog (gh3 _ 5 31 6 (.slice (some ⟨W1.heap.size + 1, 0, none⟩) 1 1) (.pointer (some ⟨W1.heap.size, 0, none⟩)) (.string (letterS k))).toArray (fun u => ∃ j : Nat, u = Y2.drewN j) _ ((gh3 _ 5 31 6 (.slice (some ⟨W1.heap.size + 1, 0, none⟩) 1 1) (.pointer (some ⟨W1.heap.size, 0, none⟩)) (.string (letterS k))).take 32) _
          simp only [gh3, gh, ghost, List.take_succ_cons, List.take_zero]
          repeat (go_big_quiet_step ((go_at_call 28; exact HC.out _ _ (by omega) (by omega))))
          refine wpQuiet_nil ?_
          exact rfl
        · subst h
          have B1 := HB1'.out.below b3
          have B2 := HB2'.out.below b3
          have BK := HBK.out.below b3
          have c0 : Y3.cell? ⟨w.heap.size, 0, none⟩ = some (.string x.Id) := B1.cell 0
          have c1 : Y3.cell? ⟨w.heap.size, 1, none⟩ = some (.int .i64 x.People) := B1.cell 1
          have c2 : Y3.cell? ⟨w.heap.size, 2, none⟩ = some (.int .i64 x.Guides) := B1.cell 2
          have c3 : Y3.cell? ⟨w.heap.size, 3, none⟩ = some (.int .i64 x.Beacons) := B1.cell 3
          have c4 : Y3.cell? ⟨w.heap.size, 4, none⟩ = some (.int .i64 x.Shovels) := B1.cell 4
          have c5 : Y3.cell? ⟨w.heap.size, 5, none⟩ = some (.int .i64 x.Probes) := B1.cell 5
          have c6 : Y3.cell? ⟨w.heap.size, 6, none⟩ = some (.int .i64 x.Skill) := B1.cell 6
          have d0 : Y3.cell? ⟨w.heap.size + 1, 0, none⟩ = some (.int .i64 n) := B2.cell 0
          have e0 : Y3.cell? ⟨wr.heap.size, 0, none⟩ = some (.int .i64 k) := BK.cell 0
          have HC : Hid (∀ (v : Int) (j : Nat), 0 ≤ v → v ≤ 30 → Calls Try.prog 28 #[.int .i64 v, .pointer (some ⟨wr.heap.size, 0, none⟩), .pointer (some ⟨w.heap.size + 1, 0, none⟩)] (Y3.drewN j) fun e w'' => e = .returned (.int .i64 (shr v k n)) ∧ ∃ m, w'' = Y3.drewN m) := Lib.hid fun v j h0 h1 => quiet_drew (share_any v n k _ _ _ e0 d0 h0 h1 hk3 hm2 (by omega))
          clear B1 B2 BK
          change wpQuiet Try.prog (gh3 _ 5 31 6 (.slice (some ⟨W1.heap.size, 0, none⟩) 1 1) (.pointer (some ⟨W1.heap.size + 1, 0, none⟩)) (.string (letterS k))).toArray (fun u => ∃ j : Nat, u = Y3.drewN j) _ ((gh3 _ 5 31 6 (.slice (some ⟨W1.heap.size, 0, none⟩) 1 1) (.pointer (some ⟨W1.heap.size + 1, 0, none⟩)) (.string (letterS k))).take 32) _
          simp only [gh3, gh, ghost, List.take_succ_cons, List.take_zero]
          repeat (go_big_quiet_step ((go_at_call 28; exact HC.out _ _ (by omega) (by omega))))
          refine wpQuiet_nil ?_
          exact rfl
        · subst h
          have B1 := HB1'.out.below b4
          have B2 := HB2'.out.below b4
          have BK := HBK.out.below b4
          have c0 : Y4.cell? ⟨w.heap.size, 0, none⟩ = some (.string x.Id) := B1.cell 0
          have c1 : Y4.cell? ⟨w.heap.size, 1, none⟩ = some (.int .i64 x.People) := B1.cell 1
          have c2 : Y4.cell? ⟨w.heap.size, 2, none⟩ = some (.int .i64 x.Guides) := B1.cell 2
          have c3 : Y4.cell? ⟨w.heap.size, 3, none⟩ = some (.int .i64 x.Beacons) := B1.cell 3
          have c4 : Y4.cell? ⟨w.heap.size, 4, none⟩ = some (.int .i64 x.Shovels) := B1.cell 4
          have c5 : Y4.cell? ⟨w.heap.size, 5, none⟩ = some (.int .i64 x.Probes) := B1.cell 5
          have c6 : Y4.cell? ⟨w.heap.size, 6, none⟩ = some (.int .i64 x.Skill) := B1.cell 6
          have d0 : Y4.cell? ⟨w.heap.size + 1, 0, none⟩ = some (.int .i64 n) := B2.cell 0
          have e0 : Y4.cell? ⟨wr.heap.size, 0, none⟩ = some (.int .i64 k) := BK.cell 0
          have HC : Hid (∀ (v : Int) (j : Nat), 0 ≤ v → v ≤ 30 → Calls Try.prog 28 #[.int .i64 v, .pointer (some ⟨wr.heap.size, 0, none⟩), .pointer (some ⟨w.heap.size + 1, 0, none⟩)] (Y4.drewN j) fun e w'' => e = .returned (.int .i64 (shr v k n)) ∧ ∃ m, w'' = Y4.drewN m) := Lib.hid fun v j h0 h1 => quiet_drew (share_any v n k _ _ _ e0 d0 h0 h1 hk3 hm2 (by omega))
          clear B1 B2 BK
          change wpQuiet Try.prog (gh3 _ 5 31 6 (.slice (some ⟨W1.heap.size + 1, 0, none⟩) 1 1) (.pointer (some ⟨W1.heap.size, 0, none⟩)) (.string (letterS k))).toArray (fun u => ∃ j : Nat, u = Y4.drewN j) _ ((gh3 _ 5 31 6 (.slice (some ⟨W1.heap.size + 1, 0, none⟩) 1 1) (.pointer (some ⟨W1.heap.size, 0, none⟩)) (.string (letterS k))).take 32) _
          simp only [gh3, gh, ghost, List.take_succ_cons, List.take_zero]
          repeat (go_big_quiet_step ((go_at_call 28; exact HC.out _ _ (by omega) (by omega))))
          refine wpQuiet_nil ?_
          exact rfl
      case hpA => intro b; cases b <;> rfl
      case hqA => intro b; cases b <;> rfl
      case hrA => intro b; cases b <;> rfl
      case hAA => intro t h1 h2; exact aa_of (.slice (some ⟨W1.heap.size + 1, 0, none⟩) 1 1) (.pointer (some ⟨W1.heap.size, 0, none⟩)) rfl h1 h2
      case hP =>
        intro φ hφ u hu
        obtain h | h := hφ
        · subst h
          obtain ⟨j, rfl⟩ := hu
          refine ⟨(W1.drewN j).alloc (.cells #[.int .u8 (97 + (k : Int))] 5), ?_, j, ?_⟩
          · exact bs_run rfl _
          · show (W1.drewN j).alloc _ = Y1.drewN j
            rw [← HY1.out]; rfl
        · subst h
          obtain ⟨j, rfl⟩ := hu
          have hs2 : (Y2.drewN j).heap.size = W1.heap.size + 1 := by rw [← HY2.out]; simp [World.drewN]
          refine ⟨(Y2.drewN j).alloc (.cells #[.int .u8 (97 + (k : Int))] 5), ?_, j, ?_⟩
          · show _ = Result.ok (Next.value (.slice (some ⟨W1.heap.size + 1, 0, none⟩) 1 1)) _
            rw [← hs2]
            exact bs_run rfl _
          · show (Y2.drewN j).alloc _ = Y4.drewN j
            rw [← HY4.out]; rfl
      case hQ =>
        intro φ hφ u hu
        obtain h | h := hφ
        · subst h
          obtain ⟨j, rfl⟩ := hu
          refine ⟨(W1.drewN j).alloc (.cells #[.string ⟨#[]⟩, .int .i64 0, .int .i64 0, .int .i64 0, .int .i64 0, .int .i64 0, .int .i64 0] 35), ?_, j, ?_⟩
          · exact al_run _
          · show (W1.drewN j).alloc _ = Y2.drewN j
            rw [← HY2.out]; rfl
        · subst h
          obtain ⟨j, rfl⟩ := hu
          have hs2 : (Y1.drewN j).heap.size = W1.heap.size + 1 := by rw [← HY1.out]; simp [World.drewN]
          refine ⟨(Y1.drewN j).alloc (.cells #[.string ⟨#[]⟩, .int .i64 0, .int .i64 0, .int .i64 0, .int .i64 0, .int .i64 0, .int .i64 0] 35), ?_, j, ?_⟩
          · show _ = Result.ok (Next.value (.pointer (some ⟨W1.heap.size + 1, 0, none⟩))) _
            rw [← hs2]
            exact al_run _
          · show (Y1.drewN j).alloc _ = Y3.drewN j
            rw [← HY3.out]; rfl
      case hR =>
        intro φ hφ u hu
        obtain h | h | h := hφ
        · subst h
          obtain ⟨j, rfl⟩ := hu
          have hc : (Y1.drewN j).cell? ⟨W1.heap.size, 0, none⟩ = some (.int .u8 (97 + (k : Int))) := by
            have := (Box.new W1 5 #[.int .u8 (97 + (k : Int))]).cell 0
            rw [HY1.out] at this; exact this
          unfold Oper.quietAt
          show Oper.quietUpon Try.prog _ _ _ (Sem.run Try.prog (execOp _ _) (Y1.drewN j))
          rw [cv_run rfl _ (by omega) hc]
          exact ⟨rfl, rfl⟩
        · subst h
          obtain ⟨j, rfl⟩ := hu
          have hc : (Y3.drewN j).cell? ⟨W1.heap.size, 0, none⟩ = some (.int .u8 (97 + (k : Int))) := by
            have := ((Box.new W1 5 #[.int .u8 (97 + (k : Int))]).alloc (.cells #[.string ⟨#[]⟩, .int .i64 0, .int .i64 0, .int .i64 0, .int .i64 0, .int .i64 0, .int .i64 0] 35)).cell 0
            rw [HY1.out, HY3.out] at this; exact this
          unfold Oper.quietAt
          show Oper.quietUpon Try.prog _ _ _ (Sem.run Try.prog (execOp _ _) (Y3.drewN j))
          rw [cv_run rfl _ (by omega) hc]
          exact ⟨rfl, rfl⟩
        · subst h
          obtain ⟨j, rfl⟩ := hu
          have hc : (Y4.drewN j).cell? ⟨W1.heap.size + 1, 0, none⟩ = some (.int .u8 (97 + (k : Int))) := by
            have := (Box.new Y2 5 #[.int .u8 (97 + (k : Int))]).cell 0
            rw [HY4.out, ← HY2.out] at this
            simpa using this
          unfold Oper.quietAt
          show Oper.quietUpon Try.prog _ _ _ (Sem.run Try.prog (execOp _ _) (Y4.drewN j))
          rw [cv_run rfl _ (by omega) hc]
          exact ⟨rfl, rfl⟩
      case h =>
        intro φ hφ u hu
        obtain h | h := hφ
        · subst h
          obtain ⟨j, rfl⟩ := hu
          have BG : Box 35 (Y3.drewN j) (W1.heap.size + 1) #[.string ⟨#[]⟩, .int .i64 0, .int .i64 0, .int .i64 0, .int .i64 0, .int .i64 0, .int .i64 0] := by
            have := Box.new Y1 35 #[.string ⟨#[]⟩, .int .i64 0, .int .i64 0, .int .i64 0, .int .i64 0, .int .i64 0, .int .i64 0]
            rw [HY3.out, ← HY1.out] at this
            simp only [World.alloc, Array.size_push] at this
            exact this
          have hbU : Below W1.heap.size W1 (Y3.drewN j) := Bel.drewN b3 j
          generalize Y3.drewN j = U at *
          have c0 : U.cell? ⟨W1.heap.size + 1, 0, none⟩ = some (.string ⟨#[]⟩) := BG.cell 0
          have c1 : U.cell? ⟨W1.heap.size + 1, 1, none⟩ = some (.int .i64 0) := BG.cell 1
          have c2 : U.cell? ⟨W1.heap.size + 1, 2, none⟩ = some (.int .i64 0) := BG.cell 2
          have c3 : U.cell? ⟨W1.heap.size + 1, 3, none⟩ = some (.int .i64 0) := BG.cell 3
          have c4 : U.cell? ⟨W1.heap.size + 1, 4, none⟩ = some (.int .i64 0) := BG.cell 4
          have c5 : U.cell? ⟨W1.heap.size + 1, 5, none⟩ = some (.int .i64 0) := BG.cell 5
          have c6 : U.cell? ⟨W1.heap.size + 1, 6, none⟩ = some (.int .i64 0) := BG.cell 6
          have z0 : U.frozen? ⟨W1.heap.size + 1, 0, none⟩ = false := BG.free 0
          have z1 : U.frozen? ⟨W1.heap.size + 1, 1, none⟩ = false := BG.free 1
          have z2 : U.frozen? ⟨W1.heap.size + 1, 2, none⟩ = false := BG.free 2
          have z3 : U.frozen? ⟨W1.heap.size + 1, 3, none⟩ = false := BG.free 3
          have z4 : U.frozen? ⟨W1.heap.size + 1, 4, none⟩ = false := BG.free 4
          have z5 : U.frozen? ⟨W1.heap.size + 1, 5, none⟩ = false := BG.free 5
          have z6 : U.frozen? ⟨W1.heap.size + 1, 6, none⟩ = false := BG.free 6
          have HBG := Lib.hid BG
          clear BG
          simp only [List.drop_succ_cons, List.drop_zero]
          change wpList Try.prog _ _ _ (two _ _ false) _
          simp only [two]
          go_upto_region 11 with fail
          refine wp_name (R := fun W5 => Box 35 W5 (W1.heap.size + 1) #[.string (x.Id ++ letterS k), .int .i64 (shr x.People k n), .int .i64 (shr x.Guides k n), .int .i64 (shr x.Beacons k n), .int .i64 (shr x.Shovels k n), .int .i64 (shr x.Probes k n), .int .i64 x.Skill] ∧ Below wr.heap.size wr W5)
            ⟨HBG.out.setAll (SGroup.cells (partG x n k)) rfl, Bel.setAll (by omega) (SGroup.cells (partG x n k)) 0 (Bel.trans hb1 hbU)⟩ ?_
          rintro W5 ⟨BP, hb5⟩
          clear HBG c0 c1 c2 c3 c4 c5 c6 z0 z1 z2 z3 z4 z5 z6 hbU
          have HR5 := Lib.hid (HR.out.below hb5)
          have hbel := Bel.trans hb hb5
          have hsz : (partG x n k).Id.size ≤ 9223372036854775807 := by
            show (x.Id ++ letterS k).size ≤ _
            rw [ByteArray.size_append, letterS_size]; omega
          cases hpk : okGroup (partG x n k)
          · have HPK := Lib.hid hpk
            clear hpk
            have c0 : W5.cell? ⟨W1.heap.size + 1, 0, none⟩ = some (.string (x.Id ++ letterS k)) := BP.cell 0
            have c1 : W5.cell? ⟨W1.heap.size + 1, 1, none⟩ = some (.int .i64 (shr x.People k n)) := BP.cell 1
            have c2 : W5.cell? ⟨W1.heap.size + 1, 2, none⟩ = some (.int .i64 (shr x.Guides k n)) := BP.cell 2
            have c3 : W5.cell? ⟨W1.heap.size + 1, 3, none⟩ = some (.int .i64 (shr x.Beacons k n)) := BP.cell 3
            have c4 : W5.cell? ⟨W1.heap.size + 1, 4, none⟩ = some (.int .i64 (shr x.Shovels k n)) := BP.cell 4
            have c5 : W5.cell? ⟨W1.heap.size + 1, 5, none⟩ = some (.int .i64 (shr x.Probes k n)) := BP.cell 5
            have c6 : W5.cell? ⟨W1.heap.size + 1, 6, none⟩ = some (.int .i64 x.Skill) := BP.cell 6
            clear BP
            go_wp2_with (go_at_call 27; refine (Calls.boolIs HPK.out (validGroup_any (partG x n k) _ hsz)).mono ?_; rintro e w6 ⟨rfl, hb6⟩)
            go_ret2
            rw [spRes_6 HV.out HQ2.out rfl hlt HPK.out]
            exact ⟨⟨_, rfl, Row.nil⟩, Bel.trans hbw (Bel.trans hbel hb6)⟩
          · have HPK := Lib.hid hpk
            clear hpk
            have c0 : W5.cell? ⟨W1.heap.size + 1, 0, none⟩ = some (.string (x.Id ++ letterS k)) := BP.cell 0
            have c1 : W5.cell? ⟨W1.heap.size + 1, 1, none⟩ = some (.int .i64 (shr x.People k n)) := BP.cell 1
            have c2 : W5.cell? ⟨W1.heap.size + 1, 2, none⟩ = some (.int .i64 (shr x.Guides k n)) := BP.cell 2
            have c3 : W5.cell? ⟨W1.heap.size + 1, 3, none⟩ = some (.int .i64 (shr x.Beacons k n)) := BP.cell 3
            have c4 : W5.cell? ⟨W1.heap.size + 1, 4, none⟩ = some (.int .i64 (shr x.Shovels k n)) := BP.cell 4
            have c5 : W5.cell? ⟨W1.heap.size + 1, 5, none⟩ = some (.int .i64 (shr x.Probes k n)) := BP.cell 5
            have c6 : W5.cell? ⟨W1.heap.size + 1, 6, none⟩ = some (.int .i64 x.Skill) := BP.cell 6
            have HBP := Lib.hid BP
            clear BP
            go_wp2_with fail
            refine (Calls.boolIs HPK.out (validGroup_any (partG x n k) _ hsz)).mono ?_
            rintro e w6 ⟨rfl, hb6⟩
            have BP := HBP.out.below hb6
            clear c0 c1 c2 c3 c4 c5 c6
            have c0 : w6.cell? ⟨W1.heap.size + 1, 0, none⟩ = some (.string (x.Id ++ letterS k)) := BP.cell 0
            have c1 : w6.cell? ⟨W1.heap.size + 1, 1, none⟩ = some (.int .i64 (shr x.People k n)) := BP.cell 1
            have c2 : w6.cell? ⟨W1.heap.size + 1, 2, none⟩ = some (.int .i64 (shr x.Guides k n)) := BP.cell 2
            have c3 : w6.cell? ⟨W1.heap.size + 1, 3, none⟩ = some (.int .i64 (shr x.Beacons k n)) := BP.cell 3
            have c4 : w6.cell? ⟨W1.heap.size + 1, 4, none⟩ = some (.int .i64 (shr x.Shovels k n)) := BP.cell 4
            have c5 : w6.cell? ⟨W1.heap.size + 1, 5, none⟩ = some (.int .i64 (shr x.Probes k n)) := BP.cell 5
            have c6 : w6.cell? ⟨W1.heap.size + 1, 6, none⟩ = some (.int .i64 x.Skill) := BP.cell 6
            clear BP HBP
            have HR6 := Lib.hid (HR5.out.below hb6)
            have hbel := Bel.trans hbel hb6
            have hsz6 := hbel.size
            go_wp2_with (at_builtin; refine wpList_pushGr rfl _ _ 32 rfl w1.heap.size 35 Try.underlying32 (by kernel_rfl) u6 (spL x n k) (partG x n k) rfl HR6.out 1 rfl (by rw [spL_len]; omega) hsz6 ?_; intro v' w7 hr7 hb7)
            go_roundw
            case rel => exact ⟨k + 1, by omega, by go_num, by rw [spL_snoc]; exact hr7, by rw [okTo_step, HOK.out, HPK.out]; rfl, hbel.trans hb7⟩
            case measure => simp [intOf]; omega
        · subst h
          obtain ⟨j, rfl⟩ := hu
          have BG : Box 35 (Y4.drewN j) W1.heap.size #[.string ⟨#[]⟩, .int .i64 0, .int .i64 0, .int .i64 0, .int .i64 0, .int .i64 0, .int .i64 0] := by
            have := (Box.new W1 35 #[.string ⟨#[]⟩, .int .i64 0, .int .i64 0, .int .i64 0, .int .i64 0, .int .i64 0, .int .i64 0]).alloc (.cells #[.int .u8 (97 + (k : Int))] 5)
            rw [HY2.out, HY4.out] at this
            exact this
          have hbU : Below W1.heap.size W1 (Y4.drewN j) := Bel.drewN b4 j
          generalize Y4.drewN j = U at *
          have c0 : U.cell? ⟨W1.heap.size, 0, none⟩ = some (.string ⟨#[]⟩) := BG.cell 0
          have c1 : U.cell? ⟨W1.heap.size, 1, none⟩ = some (.int .i64 0) := BG.cell 1
          have c2 : U.cell? ⟨W1.heap.size, 2, none⟩ = some (.int .i64 0) := BG.cell 2
          have c3 : U.cell? ⟨W1.heap.size, 3, none⟩ = some (.int .i64 0) := BG.cell 3
          have c4 : U.cell? ⟨W1.heap.size, 4, none⟩ = some (.int .i64 0) := BG.cell 4
          have c5 : U.cell? ⟨W1.heap.size, 5, none⟩ = some (.int .i64 0) := BG.cell 5
          have c6 : U.cell? ⟨W1.heap.size, 6, none⟩ = some (.int .i64 0) := BG.cell 6
          have z0 : U.frozen? ⟨W1.heap.size, 0, none⟩ = false := BG.free 0
          have z1 : U.frozen? ⟨W1.heap.size, 1, none⟩ = false := BG.free 1
          have z2 : U.frozen? ⟨W1.heap.size, 2, none⟩ = false := BG.free 2
          have z3 : U.frozen? ⟨W1.heap.size, 3, none⟩ = false := BG.free 3
          have z4 : U.frozen? ⟨W1.heap.size, 4, none⟩ = false := BG.free 4
          have z5 : U.frozen? ⟨W1.heap.size, 5, none⟩ = false := BG.free 5
          have z6 : U.frozen? ⟨W1.heap.size, 6, none⟩ = false := BG.free 6
          have HBG := Lib.hid BG
          clear BG
          simp only [List.drop_succ_cons, List.drop_zero]
          change wpList Try.prog _ _ _ (two _ _ true) _
          simp only [two]
          go_upto_region 11 with fail
          refine wp_name (R := fun W5 => Box 35 W5 (W1.heap.size) #[.string (x.Id ++ letterS k), .int .i64 (shr x.People k n), .int .i64 (shr x.Guides k n), .int .i64 (shr x.Beacons k n), .int .i64 (shr x.Shovels k n), .int .i64 (shr x.Probes k n), .int .i64 x.Skill] ∧ Below wr.heap.size wr W5)
            ⟨HBG.out.setAll (SGroup.cells (partG x n k)) rfl, Bel.setAll (by omega) (SGroup.cells (partG x n k)) 0 (Bel.trans hb1 hbU)⟩ ?_
          rintro W5 ⟨BP, hb5⟩
          clear HBG c0 c1 c2 c3 c4 c5 c6 z0 z1 z2 z3 z4 z5 z6 hbU
          have HR5 := Lib.hid (HR.out.below hb5)
          have hbel := Bel.trans hb hb5
          have hsz : (partG x n k).Id.size ≤ 9223372036854775807 := by
            show (x.Id ++ letterS k).size ≤ _
            rw [ByteArray.size_append, letterS_size]; omega
          cases hpk : okGroup (partG x n k)
          · have HPK := Lib.hid hpk
            clear hpk
            have c0 : W5.cell? ⟨W1.heap.size, 0, none⟩ = some (.string (x.Id ++ letterS k)) := BP.cell 0
            have c1 : W5.cell? ⟨W1.heap.size, 1, none⟩ = some (.int .i64 (shr x.People k n)) := BP.cell 1
            have c2 : W5.cell? ⟨W1.heap.size, 2, none⟩ = some (.int .i64 (shr x.Guides k n)) := BP.cell 2
            have c3 : W5.cell? ⟨W1.heap.size, 3, none⟩ = some (.int .i64 (shr x.Beacons k n)) := BP.cell 3
            have c4 : W5.cell? ⟨W1.heap.size, 4, none⟩ = some (.int .i64 (shr x.Shovels k n)) := BP.cell 4
            have c5 : W5.cell? ⟨W1.heap.size, 5, none⟩ = some (.int .i64 (shr x.Probes k n)) := BP.cell 5
            have c6 : W5.cell? ⟨W1.heap.size, 6, none⟩ = some (.int .i64 x.Skill) := BP.cell 6
            clear BP
            go_wp2_with (go_at_call 27; refine (Calls.boolIs HPK.out (validGroup_any (partG x n k) _ hsz)).mono ?_; rintro e w6 ⟨rfl, hb6⟩)
            go_ret2
            rw [spRes_6 HV.out HQ2.out rfl hlt HPK.out]
            exact ⟨⟨_, rfl, Row.nil⟩, Bel.trans hbw (Bel.trans hbel hb6)⟩
          · have HPK := Lib.hid hpk
            clear hpk
            have c0 : W5.cell? ⟨W1.heap.size, 0, none⟩ = some (.string (x.Id ++ letterS k)) := BP.cell 0
            have c1 : W5.cell? ⟨W1.heap.size, 1, none⟩ = some (.int .i64 (shr x.People k n)) := BP.cell 1
            have c2 : W5.cell? ⟨W1.heap.size, 2, none⟩ = some (.int .i64 (shr x.Guides k n)) := BP.cell 2
            have c3 : W5.cell? ⟨W1.heap.size, 3, none⟩ = some (.int .i64 (shr x.Beacons k n)) := BP.cell 3
            have c4 : W5.cell? ⟨W1.heap.size, 4, none⟩ = some (.int .i64 (shr x.Shovels k n)) := BP.cell 4
            have c5 : W5.cell? ⟨W1.heap.size, 5, none⟩ = some (.int .i64 (shr x.Probes k n)) := BP.cell 5
            have c6 : W5.cell? ⟨W1.heap.size, 6, none⟩ = some (.int .i64 x.Skill) := BP.cell 6
            have HBP := Lib.hid BP
            clear BP
            go_wp2_with fail
            refine (Calls.boolIs HPK.out (validGroup_any (partG x n k) _ hsz)).mono ?_
            rintro e w6 ⟨rfl, hb6⟩
            have BP := HBP.out.below hb6
            clear c0 c1 c2 c3 c4 c5 c6
            have c0 : w6.cell? ⟨W1.heap.size, 0, none⟩ = some (.string (x.Id ++ letterS k)) := BP.cell 0
            have c1 : w6.cell? ⟨W1.heap.size, 1, none⟩ = some (.int .i64 (shr x.People k n)) := BP.cell 1
            have c2 : w6.cell? ⟨W1.heap.size, 2, none⟩ = some (.int .i64 (shr x.Guides k n)) := BP.cell 2
            have c3 : w6.cell? ⟨W1.heap.size, 3, none⟩ = some (.int .i64 (shr x.Beacons k n)) := BP.cell 3
            have c4 : w6.cell? ⟨W1.heap.size, 4, none⟩ = some (.int .i64 (shr x.Shovels k n)) := BP.cell 4
            have c5 : w6.cell? ⟨W1.heap.size, 5, none⟩ = some (.int .i64 (shr x.Probes k n)) := BP.cell 5
            have c6 : w6.cell? ⟨W1.heap.size, 6, none⟩ = some (.int .i64 x.Skill) := BP.cell 6
            clear BP HBP
            have HR6 := Lib.hid (HR5.out.below hb6)
            have hbel := Bel.trans hbel hb6
            have hsz6 := hbel.size
            go_wp2_with (at_builtin; refine wpList_pushGr rfl _ _ 32 rfl w1.heap.size 35 Try.underlying32 (by kernel_rfl) u6 (spL x n k) (partG x n k) rfl HR6.out 1 rfl (by rw [spL_len]; omega) hsz6 ?_; intro v' w7 hr7 hb7)
            go_roundw
            case rel => exact ⟨k + 1, by omega, by go_num, by rw [spL_snoc]; exact hr7, by rw [okTo_step, HOK.out, HPK.out]; rfl, hbel.trans hb7⟩
            case measure => simp [intOf]; omega
    · obtain rfl : k = n := by omega
      have hbel := Bel.trans hbw hb
      go_wp2
      go_ret2
      rw [spRes_0 HV.out HQ2.out rfl HOK.out]
      exact ⟨⟨_, rfl, HR.out.lower hbw.size⟩, hbel⟩
end Go.Proofs.Ytfbnckgfgaddkaa
