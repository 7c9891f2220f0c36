/- Chapter 27: the changes between two states: the walks. -/
import Derived.Test.YtocipeididkllaaL27
import Derived.Test.YtocipeididkllaaApp
import Derived.Laws.StructEq
namespace Go.Proofs.Ytocipeididkllaa
set_option linter.unusedSimpArgs false
set_option linter.unusedVariables false
open Go.RowKit
set_option maxHeartbeats 400000
set_option maxRecDepth 100000
/-- append(v, change). -/
theorem wpList_pushC {P : Program} {ops : Array Oper} {rest : List Oper} {o : Oper} {a : Act} {Q : Exit → Act → World → Prop} {w : World} (hgd : o.guard = none) (s x : Operand) (t : TypeId)
    (ho : o.op = .call { callee := .builtin .append, args := #[s, x], argTypes := #[t, t] }) (base : Nat) (e : TypeId) (ht : P.underlying t = some (.slice e))
    (hi : (P.info? e).map (fun i => (i.zero, i.size, i.bytes)) = some (some (.agg #[.int .i64 0, .string ⟨#[]⟩, .int .i64 0]), 3, 32))
    (v : Value) (ys : List SChange) (y : SChange) (hs : a.eval s = v) (R : Row SChange.cells 3 e w base v ys) (c : Nat) (hx : a.eval x = .slice (some ⟨w.heap.size, 0, none⟩) 1 c) (hn : ys.length ≤ 1048577) (hbase : base ≤ w.heap.size)
    (h : ∀ v' w', Row SChange.cells 3 e w' base v' (ys ++ [y]) → Below base w w' → wpList P ops Q rest (a.put o.dst v') w') :
    wpList P ops Q (o :: rest) a (w.alloc (.cells #[.int .i64 y.Kind, .string y.Name, .int .i64 y.Val] e)) := by
  refine wpList_push hgd s x t ho base e (.agg #[.int .i64 0, .string ⟨#[]⟩, .int .i64 0]) 3 32 ht hi rfl (by decide) (by decide) SChange.cells v ys y hs (R.alloc _) w.heap.size c hx rfl (fun j u hu => ?_) (fun u hu => ?_) hn (by simp; omega) fun v' w' hr hg hb => h v' w' hr ?_
  · rw [(Box.new w e #[.int .i64 y.Kind, .string y.Name, .int .i64 y.Val]).cell j]; simpa [SChange.cells] using hu
  · simp only [SChange.cells, List.mem_cons, List.not_mem_nil, or_false] at hu
    rcases hu with rfl | rfl | rfl <;> rfl
  · exact ((Below.refl base w).alloc hbase _).trans hb
def dropF (x : SSetting) : SChange := ⟨2, x.Name, x.Val⟩
def setF (x : SSetting) : SChange := ⟨1, x.Name, x.Val⟩
def qDrop (b : List SSetting) (x : SSetting) : Bool := !(vaV b x.Name).2
def qSet (a : List SSetting) (x : SSetting) : Bool := !(vaV a x.Name).2 || (vaV a x.Name).1 != x.Val
def dsRes (a b : List SSetting) : List SChange × Int := if vlSetting a && vlSetting b then (selL (qDrop b) dropF a a.length ++ selL (qSet a) setF b b.length, 0) else ([], 1)
theorem dsRes_1 {a b : List SSetting} (h : (vlSetting a && vlSetting b) = false) : dsRes a b = ([], 1) := by rw [dsRes, if_neg (by rw [h]; simp)]
theorem dsRes_0 {a b : List SSetting} (h : vlSetting a = true) (h2 : vlSetting b = true) : dsRes a b = (selL (qDrop b) dropF a a.length ++ selL (qSet a) setF b b.length, 0) := by rw [dsRes, if_pos (by rw [h, h2]; rfl)]
theorem dsRes_len (a b : List SSetting) : (dsRes a b).1.length ≤ 48 := by
  cases h : (vlSetting a && vlSetting b)
  · rw [dsRes_1 h]; simp
  · rw [Bool.and_eq_true] at h
    rw [dsRes_0 h.1 h.2, List.length_append]
    have h1 := selL_len (qDrop b) dropF a a.length
    have h2 := selL_len (qSet a) setF b b.length
    have h3 := vlSetting_len h.1
    have h4 := vlSetting_len h.2
    omega
theorem DiffStates_any (a b : List SSetting) (g1 c1 g2 c2 : Nat) (w : World) (A1 : Arr SSetting.cells 2 w g1 a) (A2 : Arr SSetting.cells 2 w g2 b) (hn1 : a.length ≤ 1048576) (hn2 : b.length ≤ 1048576)
    (hf1 : ∀ i (h : i < a.length), a[i].Name.size ≤ 9223372036854775807) (hf2 : ∀ i (h : i < b.length), b[i].Name.size ≤ 9223372036854775807) :
    Calls Try.prog 22 #[.slice (some ⟨g1, 0, none⟩) a.length c1, .slice (some ⟨g2, 0, none⟩) b.length c2] w fun e w' => (∃ v, e = .returned (.tuple #[v, .int .i64 (dsRes a b).2]) ∧ Row SChange.cells 3 80 w' w.heap.size v (dsRes a b).1) ∧ Below w.heap.size w w' := by
  have HA1 := Lib.hid A1
  have HA2 := Lib.hid A2
  clear A1 A2
  cases hv1 : vlSetting a
  · have HV1 := Lib.hid hv1
    have HR := Lib.hid (dsRes_1 (a := a) (b := b) (by rw [hv1]; rfl))
    clear hv1
    go_enter Try.func22, Try.ntmps22
    go_wp2_with (go_at_call 47; refine (Calls.boolIs HV1.out (ValidState_any a g1 c1 _ HA1.out hn1 hf1)).mono ?_; rintro e w1 ⟨rfl, hb1⟩)
    go_ret2
    rw [HR.out]
    exact ⟨⟨_, rfl, Row.nil⟩, hb1⟩
  cases hv2 : vlSetting b
  · have HV1 := Lib.hid hv1
    have HV2 := Lib.hid hv2
    have HR := Lib.hid (dsRes_1 (a := a) (b := b) (by rw [hv2, Bool.and_false]))
    clear hv1 hv2
    go_enter Try.func22, Try.ntmps22
    go_wp2_with fail
    refine (Calls.boolIs HV1.out (ValidState_any a g1 c1 _ HA1.out hn1 hf1)).mono ?_
    rintro e w1 ⟨rfl, hb1⟩
    go_wp2_with fail
    refine (Calls.boolIs HV2.out (ValidState_any b g2 c2 _ (HA2.out.below hb1) hn2 hf2)).mono ?_
    rintro e w2 ⟨rfl, hb2⟩
    go_wp2
    go_ret2
    rw [HR.out]
    exact ⟨⟨_, rfl, Row.nil⟩, Bel.trans hb1 hb2⟩
  have HV1 := Lib.hid hv1
  have HV2 := Lib.hid hv2
  have hl1 := vlSetting_len hv1
  have hl2 := vlSetting_len hv2
  clear hv1 hv2
  go_enter Try.func22, Try.ntmps22
  go_wp2_with fail
  refine (Calls.boolIs HV1.out (ValidState_any a g1 c1 _ HA1.out hn1 hf1)).mono ?_
  rintro e w1 ⟨rfl, hb1⟩
  go_wp2_with fail
  refine (Calls.boolIs HV2.out (ValidState_any b g2 c2 _ (HA2.out.below hb1) hn2 hf2)).mono ?_
  rintro e w2 ⟨rfl, hb2⟩
  have hbw := Bel.trans hb1 hb2
  go_wp2_with fail
  go_loopw [6, 25] (fun v i wr => ∃ k : Nat, k ≤ a.length ∧ i = .int .i64 k ∧ Row SChange.cells 3 80 wr w.heap.size v (selL (qDrop b) dropF a k) ∧ Below w.heap.size w wr) (fun _ i wr => a.length - (intOf i).toNat)
  case atStart => exact ⟨0, by omega, rfl, Row.nil, hbw⟩
  case round =>
    obtain ⟨k, hk, rfl, hrow, hbel⟩ := hrel
    have HR := Lib.hid hrow
    clear hrow
    by_cases hlt : k < a.length
    · obtain ⟨e0, e1⟩ := SSetting.elem (HA1.out.below hbel) hlt
      have hle := selL_len (qDrop b) dropF a k
      have hva := fun w A => valueAt_any b g2 c2 a[k].Name w A hn2
      obtain ⟨vv, hvv⟩ : ∃ vv, (vaV b a[k].Name).1 = vv := ⟨_, rfl⟩
      cases hq : (vaV b a[k].Name).2
      · rw [hq, hvv] at hva
        have HVA := Lib.hid hva
        have HQ := Lib.hid (show qDrop b a[k] = true by rw [qDrop, hq]; rfl)
        clear hq hvv hva
        go_wp2_with fail
        refine calls_box_out ?_
        intro W hbx BX
        refine (HVA.out _ (HA2.out.below (Bel.trans hbel hbx))).mono ?_
        rintro e w3 ⟨rfl, hb3⟩
        have BX := BX.below hb3
        have c0 : w3.cell? ⟨wr.heap.size, 0, none⟩ = some (.string a[k].Name) := BX.cell 0
        have c1 : w3.cell? ⟨wr.heap.size, 1, none⟩ = some (.int .i64 a[k].Val) := BX.cell 1
        have z0 : w3.frozen? ⟨wr.heap.size, 0, none⟩ = false := BX.free 0
        have z1 : w3.frozen? ⟨wr.heap.size, 1, none⟩ = false := BX.free 1
        have hbt := Bel.trans hbel (Bel.trans hbx hb3)
        have hsz := hbt.size
        have HR3 := Lib.hid (HR.out.below (Bel.trans hbx hb3))
        clear BX z0 z1 e0 e1 HVA
        go_wp2_with (at_builtin; refine wpList_pushC rfl _ _ 38 rfl w.heap.size 80 Try.underlying38 (by kernel_rfl) u6 (selL (qDrop b) dropF a k) (dropF a[k]) rfl HR3.out 1 rfl (by omega) hsz ?_; intro v' w4 hr4 hb4)
        go_roundw
        case rel => exact ⟨k + 1, by omega, by go_num, by rw [selL_yes hlt HQ.out]; exact hr4, hbt.trans hb4⟩
        case measure => simp [intOf]; omega
      · rw [hq, hvv] at hva
        have HVA := Lib.hid hva
        have HQ := Lib.hid (show qDrop b a[k] = false by rw [qDrop, hq]; rfl)
        clear hq hvv hva
        go_wp2_with fail
        refine calls_box_out ?_
        intro W hbx BX
        refine (HVA.out _ (HA2.out.below (Bel.trans hbel hbx))).mono ?_
        rintro e w3 ⟨rfl, hb3⟩
        have hbt := Bel.trans hbel (Bel.trans hbx hb3)
        have HR3 := Lib.hid (HR.out.below (Bel.trans hbx hb3))
        clear BX e0 e1 HVA
        go_wp2
        go_roundw
        case rel => exact ⟨k + 1, by omega, by go_num, by rw [selL_no hlt HQ.out]; exact HR3.out, hbt⟩
        case measure => simp [intOf]; omega
    · obtain rfl : k = a.length := by omega
      go_wp2_with fail
      have hlA := selL_len (qDrop b) dropF a a.length
      go_loopw [6, 46] (fun v i wr2 => ∃ k : Nat, k ≤ b.length ∧ i = .int .i64 k ∧ Row SChange.cells 3 80 wr2 w.heap.size v (selL (qDrop b) dropF a a.length ++ selL (qSet a) setF b k) ∧ Below w.heap.size w wr2) (fun _ i wr2 => b.length - (intOf i).toNat)
      case atStart => exact ⟨0, by omega, rfl, by have e : selL (qSet a) setF b 0 = [] := by simp [selL]
                                                  rw [e, List.append_nil]; exact HR.out, hbel⟩
      case round =>
        clear HR hbel
        obtain ⟨k, hk, rfl, hrow, hbel⟩ := hrel
        have HR := Lib.hid hrow
        clear hrow
        rename World => wr
        by_cases hlt : k < b.length
        · obtain ⟨e0, e1⟩ := SSetting.elem (HA2.out.below hbel) hlt
          have hle := selL_len (qSet a) setF b k
          have hva := fun w A => valueAt_any a g1 c1 b[k].Name w A hn1
          obtain ⟨vv, hvv⟩ : ∃ vv, (vaV a b[k].Name).1 = vv := ⟨_, rfl⟩
          obtain ⟨hb, hhb⟩ : ∃ hb, (vaV a b[k].Name).2 = hb := ⟨_, rfl⟩
          rw [hhb, hvv] at hva
          have HVA := Lib.hid hva
          have hql : (selL (qDrop b) dropF a a.length ++ selL (qSet a) setF b k).length ≤ 1048577 := by rw [List.length_append]; omega
          cases hb
          · have HQ := Lib.hid (show qSet a b[k] = true by rw [qSet, hhb]; rfl)
            clear hhb hvv hva
            go_wp2_with fail
            refine calls_box_out ?_
            intro W hbx BX
            refine (HVA.out _ (HA1.out.below (Bel.trans hbel hbx))).mono ?_
            rintro e w3 ⟨rfl, hb3⟩
            have BX := BX.below hb3
            have c0 : w3.cell? ⟨wr.heap.size, 0, none⟩ = some (.string b[k].Name) := BX.cell 0
            have c1_ : w3.cell? ⟨wr.heap.size, 1, none⟩ = some (.int .i64 b[k].Val) := BX.cell 1
            have hbt := Bel.trans hbel (Bel.trans hbx hb3)
            have hsz := hbt.size
            have HR3 := Lib.hid (HR.out.below (Bel.trans hbx hb3))
            clear BX e0 e1 HVA
            go_wp2_with (at_builtin; refine wpList_pushC rfl _ _ 38 rfl w.heap.size 80 Try.underlying38 (by kernel_rfl) u6 (selL (qDrop b) dropF a a.length ++ selL (qSet a) setF b k) (setF b[k]) rfl HR3.out 1 rfl hql hsz ?_; intro v' w4 hr4 hb4)
            go_roundw
            case rel => exact ⟨k + 1, by omega, by go_num, by rw [selL_yes hlt HQ.out, ← List.append_assoc]; exact hr4, hbt.trans hb4⟩
            case measure => simp [intOf]; omega
          · by_cases hv : vv = b[k].Val
            · have hvd : (vv != b[k].Val) = false := by simp [hv]
              have HQ := Lib.hid (show qSet a b[k] = false by rw [qSet, hhb, hvv, hvd]; rfl)
              clear hhb hvv hva hv
              go_wp2_with fail
              refine calls_box_out ?_
              intro W hbx BX
              refine (HVA.out _ (HA1.out.below (Bel.trans hbel hbx))).mono ?_
              rintro e w3 ⟨rfl, hb3⟩
              have BX := BX.below hb3
              have c0 : w3.cell? ⟨wr.heap.size, 0, none⟩ = some (.string b[k].Name) := BX.cell 0
              have c1_ : w3.cell? ⟨wr.heap.size, 1, none⟩ = some (.int .i64 b[k].Val) := BX.cell 1
              have hbt := Bel.trans hbel (Bel.trans hbx hb3)
              have hsz := hbt.size
              have HR3 := Lib.hid (HR.out.below (Bel.trans hbx hb3))
              clear BX e0 e1 HVA
              go_wp2
              go_roundw
              case rel => exact ⟨k + 1, by omega, by go_num, by rw [selL_no hlt HQ.out]; exact HR3.out, hbt⟩
              case measure => simp [intOf]; omega
            · have hvd : (vv != b[k].Val) = true := by simp [hv]
              have HQ := Lib.hid (show qSet a b[k] = true by rw [qSet, hhb, hvv, hvd]; rfl)
              clear hhb hvv hva hv
              go_wp2_with fail
              refine calls_box_out ?_
              intro W hbx BX
              refine (HVA.out _ (HA1.out.below (Bel.trans hbel hbx))).mono ?_
              rintro e w3 ⟨rfl, hb3⟩
              have BX := BX.below hb3
              have c0 : w3.cell? ⟨wr.heap.size, 0, none⟩ = some (.string b[k].Name) := BX.cell 0
              have c1_ : w3.cell? ⟨wr.heap.size, 1, none⟩ = some (.int .i64 b[k].Val) := BX.cell 1
              have hbt := Bel.trans hbel (Bel.trans hbx hb3)
              have hsz := hbt.size
              have HR3 := Lib.hid (HR.out.below (Bel.trans hbx hb3))
              clear BX e0 e1 HVA
              go_wp2_with (at_builtin; refine wpList_pushC rfl _ _ 38 rfl w.heap.size 80 Try.underlying38 (by kernel_rfl) u6 (selL (qDrop b) dropF a a.length ++ selL (qSet a) setF b k) (setF b[k]) rfl HR3.out 1 rfl hql hsz ?_; intro v' w4 hr4 hb4)
              go_roundw
              case rel => exact ⟨k + 1, by omega, by go_num, by rw [selL_yes hlt HQ.out, ← List.append_assoc]; exact hr4, hbt.trans hb4⟩
              case measure => simp [intOf]; omega
        · obtain rfl : k = b.length := by omega
          go_wp2
          go_ret2
          rw [dsRes_0 HV1.out HV2.out]
          exact ⟨⟨_, rfl, HR.out⟩, hbel⟩
theorem neqSetting (s1 s2 : ByteArray) (v1 v2 : Int) (W : World) : (binOp .neq 78 (.agg #[.string s1, .int .i64 v1]) (.agg #[.string s2, .int .i64 v2])).run Try.prog W = .ok (.bool (!(s1.toList == s2.toList && v1 == v2))) W := by
  rw [run_neq_struct, run_equalIn_struct (t := 78) W 9999 _ _ (by kernel_rfl) (by kernel_rfl)]
  simp [Program.fieldsOf, Try.underlying78, Op.eqFields, go_sem, Try.underlying9, Try.underlying2]
  by_cases h1 : s1.toList = s2.toList <;> by_cases h2 : v1 = v2 <;> simp [h1, h2]
theorem va_idx (L : List SSetting) (p : ByteArray) : (idxG (nmEq p) L = -1 ∧ vaV L p = (0, false)) ∨ ∃ k, ∃ h : k < L.length, idxG (nmEq p) L = (k : Int) ∧ vaV L p = (L[k].Val, true) ∧ L[k].Name.toList = p.toList := by
  unfold idxG vaV
  cases hf : fst (hasG (nmEq p) L) L.length with
  | none => exact Or.inl ⟨rfl, rfl⟩
  | some k =>
    unfold fst at hf
    have h1 := List.find?_some hf
    have h2 := List.mem_range.1 (List.mem_of_find?_eq_some hf)
    refine Or.inr ⟨k, h2, rfl, by simp [h2], ?_⟩
    rw [hasG_at h2, nmEq, beq_iff_eq] at h1
    exact h1
theorem sDiffStates_any (a b : List SSetting) (g1 c1 g2 c2 : Nat) (w : World) (A1 : Arr SSetting.cells 2 w g1 a) (A2 : Arr SSetting.cells 2 w g2 b) (hn1 : a.length ≤ 1048576) (hn2 : b.length ≤ 1048576)
    (hf1 : ∀ i (h : i < a.length), a[i].Name.size ≤ 9223372036854775807) (hf2 : ∀ i (h : i < b.length), b[i].Name.size ≤ 9223372036854775807) :
    Calls Try.prog 20 #[.slice (some ⟨g1, 0, none⟩) a.length c1, .slice (some ⟨g2, 0, none⟩) b.length c2] w fun e w' => (∃ v, e = .returned (.tuple #[v, .int .i64 (dsRes a b).2]) ∧ Row SChange.cells 3 80 w' w.heap.size v (dsRes a b).1) ∧ Below w.heap.size w w' := by
  have HA1 := Lib.hid A1
  have HA2 := Lib.hid A2
  clear A1 A2
  cases hv1 : vlSetting a
  · have HV1 := Lib.hid hv1
    have HR := Lib.hid (dsRes_1 (a := a) (b := b) (by rw [hv1]; rfl))
    clear hv1
    go_enter Try.func20, Try.ntmps20
    go_wp2_with (go_at_call 44; refine (Calls.boolIs HV1.out (l27State_any a g1 c1 _ HA1.out hn1 hf1)).mono ?_; rintro e w1 ⟨rfl, hb1⟩)
    go_ret2
    rw [HR.out]
    exact ⟨⟨_, rfl, Row.nil⟩, hb1⟩
  cases hv2 : vlSetting b
  · have HV1 := Lib.hid hv1
    have HV2 := Lib.hid hv2
    have HR := Lib.hid (dsRes_1 (a := a) (b := b) (by rw [hv2, Bool.and_false]))
    clear hv1 hv2
    go_enter Try.func20, Try.ntmps20
    go_wp2_with fail
    refine (Calls.boolIs HV1.out (l27State_any a g1 c1 _ HA1.out hn1 hf1)).mono ?_
    rintro e w1 ⟨rfl, hb1⟩
    go_wp2_with fail
    refine (Calls.boolIs HV2.out (l27State_any b g2 c2 _ (HA2.out.below hb1) hn2 hf2)).mono ?_
    rintro e w2 ⟨rfl, hb2⟩
    go_wp2
    go_ret2
    rw [HR.out]
    exact ⟨⟨_, rfl, Row.nil⟩, Bel.trans hb1 hb2⟩
  have HV1 := Lib.hid hv1
  have HV2 := Lib.hid hv2
  have hl1 := vlSetting_len hv1
  have hl2 := vlSetting_len hv2
  clear hv1 hv2
  go_enter Try.func20, Try.ntmps20
  go_wp2_with fail
  refine (Calls.boolIs HV1.out (l27State_any a g1 c1 _ HA1.out hn1 hf1)).mono ?_
  rintro e w1 ⟨rfl, hb1⟩
  go_wp2_with fail
  refine (Calls.boolIs HV2.out (l27State_any b g2 c2 _ (HA2.out.below hb1) hn2 hf2)).mono ?_
  rintro e w2 ⟨rfl, hb2⟩
  have hbw := Bel.trans hb1 hb2
  go_wp2_with fail
  go_loopw [6, 7] (fun v i wr => ∃ k : Nat, k ≤ a.length ∧ i = .int .i64 k ∧ Row SChange.cells 3 80 wr w.heap.size v (selL (qDrop b) dropF a k) ∧ Below w.heap.size w wr) (fun _ i wr => a.length - (intOf i).toNat)
  case atStart => exact ⟨0, by omega, rfl, Row.empty hbw.size, Bel.alloc hbw _⟩
  case round =>
    obtain ⟨k, hk, rfl, hrow, hbel⟩ := hrel
    have HR := Lib.hid hrow
    clear hrow
    by_cases hlt : k < a.length
    · obtain ⟨e0, e1⟩ := SSetting.elem (HA1.out.below hbel) hlt
      have hle := selL_len (qDrop b) dropF a k
      have hsz := hbel.size
      have hat := fun w A => l27At_any b g2 c2 a[k].Name w A hn2
      rcases va_idx b a[k].Name with ⟨h1, h2⟩ | ⟨m, hm, h1, h2, h3⟩
      · rw [h1] at hat
        have HAT := Lib.hid hat
        have HQ := Lib.hid (show qDrop b a[k] = true by rw [qDrop, h2]; rfl)
        clear h1 h2 hat
        go_wp2_with (first | (go_at_call 45; refine (HAT.out _ (HA2.out.below hbel)).mono ?_; rintro e w' ⟨rfl, rfl⟩) | (at_builtin; refine wpList_pushC rfl _ _ 38 rfl w.heap.size 80 Try.underlying38 (by kernel_rfl) u6 (selL (qDrop b) dropF a k) (dropF a[k]) rfl HR.out 1 rfl (by omega) hsz ?_; intro v' w4 hr4 hb4))
        go_roundw
        case rel => exact ⟨k + 1, by omega, by go_num, by rw [selL_yes hlt HQ.out]; exact hr4, hbel.trans hb4⟩
        case measure => simp [intOf]; omega
      · rw [h1] at hat
        have HAT := Lib.hid hat
        have HQ := Lib.hid (show qDrop b a[k] = false by rw [qDrop, h2]; rfl)
        clear h1 h2 h3 hat
        go_wp2_with (go_at_call 45; refine (HAT.out _ (HA2.out.below hbel)).mono ?_; rintro e w' ⟨rfl, rfl⟩)
        go_roundw
        case rel => exact ⟨k + 1, by omega, by go_num, by rw [selL_no hlt HQ.out]; exact HR.out, hbel⟩
        case measure => simp [intOf]; omega
    · obtain rfl : k = a.length := by omega
      go_wp2_with fail
      have hlA := selL_len (qDrop b) dropF a a.length
      go_loopw [6, 8] (fun v i wr2 => ∃ k : Nat, k ≤ b.length ∧ i = .int .i64 k ∧ Row SChange.cells 3 80 wr2 w.heap.size v (selL (qDrop b) dropF a a.length ++ selL (qSet a) setF b k) ∧ Below w.heap.size w wr2) (fun _ i wr2 => b.length - (intOf i).toNat)
      case atStart => exact ⟨0, by omega, rfl, by have e : selL (qSet a) setF b 0 = [] := by simp [selL]
                                                  rw [e, List.append_nil]; exact HR.out, hbel⟩
      case round =>
        clear HR hbel
        obtain ⟨k, hk, rfl, hrow, hbel⟩ := hrel
        have HR := Lib.hid hrow
        clear hrow
        rename World => wr
        by_cases hlt : k < b.length
        · obtain ⟨e0, e1⟩ := SSetting.elem (HA2.out.below hbel) hlt
          have hle := selL_len (qSet a) setF b k
          have hsz := hbel.size
          have hat := fun w A => l27At_any a g1 c1 b[k].Name w A hn1
          have hql : (selL (qDrop b) dropF a a.length ++ selL (qSet a) setF b k).length ≤ 1048577 := by rw [List.length_append]; omega
          rcases va_idx a b[k].Name with ⟨h1, h2⟩ | ⟨m, hm, h1, h2, h3⟩
          · rw [h1] at hat
            have HAT := Lib.hid hat
            have HQ := Lib.hid (show qSet a b[k] = true by rw [qSet, h2]; rfl)
            clear h1 h2 hat
            go_wp2_with (go_at_call 45; refine (HAT.out _ (HA1.out.below hbel)).mono ?_; rintro e w' ⟨rfl, rfl⟩)
            refine wp_region_past (by kernel_rfl) (by kernel_rfl) ?_
            repeat (go_big_quiet_step (fail))
            refine wpQuiet_nil ?_
            intro W1 hw'
            obtain ⟨⟨W_, hb1⟩, hw''⟩ := hw'
            subst hw''
            have hbt := Bel.trans hbel hb1
            have hsz := hbt.size
            have HR3 := Lib.hid (HR.out.below hb1)
            obtain ⟨e0, e1⟩ := SSetting.elem (HA2.out.below hbt) hlt
            go_wp2_with (at_builtin; refine wpList_pushC rfl _ _ 38 rfl w.heap.size 80 Try.underlying38 (by kernel_rfl) u6 (selL (qDrop b) dropF a a.length ++ selL (qSet a) setF b k) (setF b[k]) rfl HR3.out 1 rfl hql hsz ?_; intro v' w4 hr4 hb4)
            go_roundw
            case rel => exact ⟨k + 1, by omega, by go_num, by rw [selL_yes hlt HQ.out, ← List.append_assoc]; exact hr4, hbt.trans hb4⟩
            case measure => simp [intOf]; omega
          · rw [h1] at hat
            have HAT := Lib.hid hat
            have hnm := h3
            obtain ⟨vv, hvv⟩ : ∃ vv, a[m].Val = vv := ⟨_, rfl⟩
            have hneq := neqSetting a[m].Name b[k].Name a[m].Val b[k].Val
            rw [h3, hvv] at hneq
            simp only [beq_self_eq_true, Bool.true_and] at hneq
            rw [hvv] at h2
            have hn0 : ¬ ((m : Int) < 0) := by omega
            have hd0 : decide ((m : Int) < 0) = false := decide_eq_false hn0
            obtain ⟨p0, p1⟩ := SSetting.elems (HA1.out.below hbel) hm
            obtain ⟨q0, q1⟩ := SSetting.elems (HA2.out.below hbel) hlt
            rw [hvv] at p1
            by_cases hv : vv = b[k].Val
            · have HQ := Lib.hid (show qSet a b[k] = false by rw [qSet, h2, hv]; simp)
              rw [show (vv == b[k].Val) = true by simp [hv]] at hneq
              clear hn0 h1 h2 h3 hat hv hvv
              go_wp2_with (go_at_call 45; refine (HAT.out _ (HA1.out.below hbel)).mono ?_; rintro e w' ⟨rfl, rfl⟩)
              refine wp_region_past (by kernel_rfl) (by kernel_rfl) ?_
              repeat (go_big_quiet_step (fail))
              refine wpQuiet_nil ?_
              intro W1 hw'
              obtain ⟨⟨W_, hb1⟩, hw''⟩ := hw'
              subst hw''
              clear p0 p1 q0 q1
              go_wp2
              go_roundw
              case rel => exact ⟨k + 1, by omega, by go_num, by rw [selL_no hlt HQ.out]; exact HR.out.below hb1, Bel.trans hbel hb1⟩
              case measure => simp [intOf]; omega
            · have HQ := Lib.hid (show qSet a b[k] = true by rw [qSet, h2]; simp [hv])
              rw [show (vv == b[k].Val) = false by simp [hv]] at hneq
              clear hn0 h1 h2 h3 hat hv hvv
              go_wp2_with (go_at_call 45; refine (HAT.out _ (HA1.out.below hbel)).mono ?_; rintro e w' ⟨rfl, rfl⟩)
              refine wp_region_past (by kernel_rfl) (by kernel_rfl) ?_
              repeat (go_big_quiet_step (fail))
              refine wpQuiet_nil ?_
              intro W1 hw'
              obtain ⟨⟨W_, hb1⟩, hw''⟩ := hw'
              subst hw''
              clear p0 p1 q0 q1 hneq
              have hbt := Bel.trans hbel hb1
              have hsz := hbt.size
              have HR3 := Lib.hid (HR.out.below hb1)
              obtain ⟨e0, e1⟩ := SSetting.elem (HA2.out.below hbt) hlt
              go_wp2_with (at_builtin; refine wpList_pushC rfl _ _ 38 rfl w.heap.size 80 Try.underlying38 (by kernel_rfl) u6 (selL (qDrop b) dropF a a.length ++ selL (qSet a) setF b k) (setF b[k]) rfl HR3.out 1 rfl hql hsz ?_; intro v' w4 hr4 hb4)
              go_roundw
              case rel => exact ⟨k + 1, by omega, by go_num, by rw [selL_yes hlt HQ.out, ← List.append_assoc]; exact hr4, hbt.trans hb4⟩
              case measure => simp [intOf]; omega
        · obtain rfl : k = b.length := by omega
          go_wp2
          go_ret2
          rw [dsRes_0 HV1.out HV2.out]
          exact ⟨⟨_, rfl, HR.out⟩, hbel⟩
end Go.Proofs.Ytocipeididkllaa
