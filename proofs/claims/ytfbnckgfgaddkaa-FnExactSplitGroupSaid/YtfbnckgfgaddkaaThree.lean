/- A drawn region in which one operation makes a new block and another one reads it, while all others are quiet: one walk for each of the two worlds. No program in sight. -/
import Derived.Test.YtfbnckgfgaddkaaBase
namespace Go.Proofs.Ytfbnckgfgaddkaa
set_option linter.unusedSimpArgs false
set_option linter.unusedVariables false
open Go.RowKit
set_option maxHeartbeats 400000
section
variable {P : Program} {md : Region.Mode} {ops ops' : Array Oper} {n p r g : Nat} {A : Act}
/-- where all operations of the head that write a slot have come up, the slot holds what it holds at the end -/
def agree (ops : Array Oper) (n : Nat) (A a : Act) (d : Array Bool) : Prop :=
  ∀ t, (∀ j o, j < n → ops[j]? = some o → o.dst = some t → d.getD j false = true) → a.tmps[t]? = A.tmps[t]?
theorem headQ_agree {C : World → Prop} {L : Array Bool → Act → Prop} (hL : ∀ d a, L d a → a = A) (f : Nat) : ∀ (d : Array Bool) (a : Act), headQ P md ops C n L f d a → agree ops n A a d := by
  induction f with
  | zero => intro d a h t _; rw [hL d a h]
  | succ f ih =>
    intro d a h t ht
    obtain ⟨i, hi⟩ := List.exists_mem_of_ne_nil _ h.1
    obtain ⟨hin, hq⟩ := h.2 i hi
    obtain ⟨un, o, ho, -⟩ := mem_ready.1 hi
    obtain ⟨v, -, K⟩ := yieldsIn_of_qOp ho hq
    have h2 := ih _ _ K t (fun j q hj hq hd => getD_set_true (ht j q hj hq hd))
    have hne : o.dst ≠ some t := fun e => by
      have := ht i o hin ho e
      rw [getD_both un] at this
      cases this
    rw [← h2]
    cases hd : o.dst with
    | none => rfl
    | some s =>
      have : s ≠ t := fun e => hne (by rw [hd, e])
      simp [Act.put, Array.getElem?_setIfInBounds_ne this]
theorem put_same {a : Act} {s : Option Tmp} {v u : Value} (h : ∀ t, s = some t → (a.put s v).tmps[t]? = (a.put s u).tmps[t]?) : a.put s v = a.put s u := by
  cases s with
  | none => rfl
  | some t =>
    have h1 := h t rfl
    simp only [Act.put] at h1 ⊢
    congr 1
    by_cases ht : t < a.tmps.size
    · rw [Array.getElem?_setIfInBounds_self_of_lt ht, Array.getElem?_setIfInBounds_self_of_lt ht] at h1
      injection h1 with h1
      rw [h1]
    · rw [Array.setIfInBounds_eq_of_size_le (Nat.le_of_not_lt ht), Array.setIfInBounds_eq_of_size_le (Nat.le_of_not_lt ht)]
theorem wanted_free {o : Oper} (h : o.guard = none) (y : Nat → Option Bool) : Region.wanted o y = true := by
  unfold Region.wanted; rw [h]
theorem yields_free {C : World → Prop} {o : Oper} {v : Value} {a : Act} (h : o.guard = none) (hy : YieldsIn P ops C o v a) : ∀ w, C w → o.quietAt P a C w v := by
  rcases hy with ⟨_, hv⟩ | ⟨hw, _⟩
  · exact hv
  · rw [wanted_free h] at hw; cases hw
theorem exec_agree {o : Oper} {a A : Act} (hs : ∀ cs b, o.op ≠ .select cs b) (h : ∀ t, t ∈ o.looksAt ops → a.tmps[t]? = A.tmps[t]?) : execOp a.eval o = execOp A.eval o :=
  execOp_congr o hs fun x hx => by
    cases x with
    | tmp t =>
      have := h t (List.mem_append_left _ (List.mem_filterMap.2 ⟨.tmp t, by simpa using hx, rfl⟩))
      simp only [Act.eval, Array.getD_eq_getD_getElem?, this]
    | const v => rfl
    | global g => rfl
    | func f => rfl
/-- phases: 0 neither block is made; 1 the first is; 2 the second is; 3 both, the first one first; 4 both, the second one first -/
def tabP (φ : Nat) : Bool := φ == 2 || φ == 4
def futP (φ ψ : Nat) : Prop := ψ ≤ 4 ∧ (φ = 0 ∨ ψ = φ ∨ (φ = 1 ∧ ψ = 3) ∨ (φ = 2 ∧ ψ = 4))
def pdP (φ : Nat) : Bool := φ == 1 || φ == 3 || φ == 4
def qdP (φ : Nat) : Bool := φ == 2 || φ == 3 || φ == 4
theorem put_is {a A : Act} {s : Option Tmp} {v u : Value} (h : ∀ t, s = some t → (a.put s v).tmps[t]? = A.tmps[t]?) (hA : ∀ t, s = some t → A.tmps[t]? = some u) : a.put s v = a.put s u := by
  refine put_same fun t ht => ?_
  have h3 := h t ht
  rw [hA t ht] at h3
  rw [h3]
  subst ht
  simp only [Act.put] at h3 ⊢
  by_cases hlt : t < a.tmps.size
  · rw [Array.getElem?_setIfInBounds_self_of_lt hlt]
  · rw [Array.getElem?_eq_none (by simpa using Nat.le_of_not_lt hlt)] at h3; cases h3
theorem headThree {ops' : Bool → Array Oper} {q : Nat} {A : Bool → Act} {C : Nat → World → Prop} {Q : Exit → Act → World → Prop} {vp vq : Bool → Value} {vr : Value} {op' oq' or' : Oper}
    (hsize : ∀ t, ops.size = (ops' t).size) (hafter : ∀ (t : Bool) (i : Nat), (ops[i]?).map (fun o : Oper => o.after) = ((ops' t)[i]?).map (fun o : Oper => o.after))
    (hsame : ∀ (t : Bool) (i : Nat), i ≠ p → i ≠ q → i ≠ r → ops[i]? = (ops' t)[i]?) (hns : Region.noSelect ops = true)
    (hguard : ∀ (i : Nat) (o : Oper), ops[i]? = some o → o.guard = none) (hguard' : ∀ (t : Bool) (i : Nat) (o : Oper), (ops' t)[i]? = some o → o.guard = none)
    (hp : ops[p]? = some op') (hq : ops[q]? = some oq') (hr : ops[r]? = some or') (hdd : ∀ (t : Bool) (i : Nat) (o o2 : Oper), ops[i]? = some o → (ops' t)[i]? = some o2 → o2.dst = o.dst)
    (hdst : ∀ (t : Bool) (i j : Nat) (o q : Oper), i < n → j < n → (ops' t)[i]? = some o → (ops' t)[j]? = some q → o.dst ≠ none → o.dst = q.dst → i = j)
    (hpn : p < n) (hqn : q < n) (hn : n < ops.size) (hpr : p ≠ r) (hpq : p ≠ q) (hqr : q ≠ r)
    (hsk : Region.sinkB md ops n = true) (hch : Region.chainB md ops n = true)
    (hpA : ∀ b t, op'.dst = some t → (A b).tmps[t]? = some (vp b)) (hqA : ∀ b t, oq'.dst = some t → (A b).tmps[t]? = some (vq b)) (hrA : ∀ b t, or'.dst = some t → (A b).tmps[t]? = some vr)
    (hAA : ∀ t, op'.dst ≠ some t → oq'.dst ≠ some t → (A false).tmps[t]? = (A true).tmps[t]?)
    (hdp : ∀ t, t ∈ op'.looksAt ops → ∀ (b : Bool) (j : Nat) (o : Oper), j < n → (ops' b)[j]? = some o → o.dst = some t → ∃ e ∈ op'.after, Region.binds md e = true ∧ e.on = j)
    (hdq : ∀ t, t ∈ oq'.looksAt ops → ∀ (b : Bool) (j : Nat) (o : Oper), j < n → (ops' b)[j]? = some o → o.dst = some t → ∃ e ∈ oq'.after, Region.binds md e = true ∧ e.on = j)
    (hdr : ∀ t, t ∈ or'.looksAt ops → ∀ (b : Bool) (j : Nat) (o : Oper), j < n → (ops' b)[j]? = some o → o.dst = some t → ∃ e ∈ or'.after, Region.binds md e = true ∧ e.on = j)
    (hrp : ∃ e ∈ or'.after, Region.binds md e = true ∧ e.on = p)
    (hP : ∀ φ, φ = 0 ∨ φ = 2 → ∀ w, C φ w → ∃ w', (execOp (A (tabP φ)).eval op').run P w = .ok (.value (vp (tabP φ))) w' ∧ C (if φ = 0 then 1 else 4) w')
    (hQ : ∀ φ, φ = 0 ∨ φ = 1 → ∀ w, C φ w → ∃ w', (execOp (A (if φ = 0 then true else false)).eval oq').run P w = .ok (.value (vq (if φ = 0 then true else false))) w' ∧ C (if φ = 0 then 2 else 3) w')
    (hR : ∀ φ, φ = 1 ∨ φ = 3 ∨ φ = 4 → ∀ w, C φ w → or'.quietAt P (A (tabP φ)) (C φ) w vr)
    (hfin : ∀ φ d w, φ = 3 ∨ φ = 4 → C φ w → Region.seqB md ops (g + 1) n d = true → wpAny P md ops Q (g + 1) d (A (tabP φ)) w) (f : Nat) :
    ∀ (d : Array Bool) (a : Act) (w : World) (φ : Nat), φ ≤ 4 → HeadInv md ops n d → d.getD p false = pdP φ → d.getD q false = qdP φ → C φ w →
      (∀ ψ, futP φ ψ → headQ P md (ops' (tabP ψ)) (C ψ) n (fun d' a' => Region.seqB md ops (g + 1) n d' = true ∧ a' = A (tabP ψ)) f d a) → wpAny P md ops Q (g + 1 + f) d a w := by
  have hready : ∀ b d, Region.ready md ops d = Region.ready md (ops' b) d := fun b d => by
    unfold Region.ready
    rw [hsize b]
    congr 1
    funext i
    have := hafter b i
    cases h1 : ops[i]? <;> cases h2 : (ops' b)[i]? <;> simp_all
  have sel := Region.noSelect_spec hns
  induction f with
  | zero =>
    intro d a w φ hφ inv hdp' hdq' hw hall
    have h0 := hall φ ⟨hφ, Or.inr (Or.inl rfl)⟩
    obtain ⟨hs, ha⟩ := h0
    have hmem : n ∈ Region.ready md ops d := by
      have := hs
      simp only [Region.seqB, Bool.and_eq_true, decide_eq_true_eq] at this
      rw [this.1]; simp
    have hd1 : d.getD p false = true := by
      cases hc : d.getD p false
      · exact absurd hmem (tail_waits hsk hch hn inv _ p rfl hpn (getD_in (by rw [inv.size]; omega) hc) n (Nat.le_refl _))
      · rfl
    have hd2 : d.getD q false = true := by
      cases hc : d.getD q false
      · exact absurd hmem (tail_waits hsk hch hn inv _ q rfl hqn (getD_in (by rw [inv.size]; omega) hc) n (Nat.le_refl _))
      · rfl
    rw [hd1] at hdp'
    rw [hd2] at hdq'
    have hφ2 : φ = 3 ∨ φ = 4 := by
      rcases (show φ = 0 ∨ φ = 1 ∨ φ = 2 ∨ φ = 3 ∨ φ = 4 by omega) with h | h | h | h | h
      · subst h; cases hdp'
      · subst h; cases hdq'
      · subst h; cases hdp'
      · exact Or.inl h
      · exact Or.inr h
    rw [ha]
    exact hfin φ d w hφ2 hw hs
  | succ f ih =>
    intro d a w φ hφ inv hdp' hdq' hw hall
    have hself := hall φ ⟨hφ, Or.inr (Or.inl rfl)⟩
    refine ⟨fun e => absurd (by rw [← hready]; exact e) hself.1, fun i hi => ?_⟩
    obtain ⟨un, o, ho, hwait⟩ := mem_ready.1 hi
    have hun : d.getD i false = false := getD_both un
    have hlt : i < d.size := by rw [inv.size]; exact (Array.getElem?_eq_some_iff.1 ho).1
    have hin : i < n := (hself.2 i (by rw [← hready]; exact hi)).1
    have inv' := inv.set hi hin
    have hset : (d.setIfInBounds i true).getD i false = true := by simp [hlt]
    -- what each future's walk says of this operation
    have hstep : ∀ ψ, futP φ ψ → ∃ v o2, (ops' (tabP ψ))[i]? = some o2 ∧ o2.dst = o.dst ∧ YieldsIn P (ops' (tabP ψ)) (C ψ) o2 v a ∧
        headQ P md (ops' (tabP ψ)) (C ψ) n (fun d' a' => Region.seqB md ops (g + 1) n d' = true ∧ a' = A (tabP ψ)) f (d.setIfInBounds i true) (a.put o.dst v) ∧
        ∀ t, o.dst = some t → (a.put o.dst v).tmps[t]? = (A (tabP ψ)).tmps[t]? := fun ψ hψ => by
      have h := hall ψ hψ
      have hi' : i ∈ Region.ready md (ops' (tabP ψ)) d := by rw [← hready]; exact hi
      obtain ⟨_, q0⟩ := h.2 i hi'
      obtain ⟨_, o2, ho2, _⟩ := mem_ready.1 hi'
      obtain ⟨v, y, K⟩ := yieldsIn_of_qOp ho2 q0
      have ed := hdd _ i o o2 ho ho2
      refine ⟨v, o2, ho2, ed, y, by rw [← ed]; exact K, fun t ht => ?_⟩
      rw [← ed] at ht ⊢
      refine headQ_agree (fun _ _ hL => hL.2) f _ _ K t (fun j q2 hj hq2 hd2 => ?_)
      have : i = j := hdst _ i j o2 q2 hin hj ho2 hq2 (by rw [ht]; simp) (by rw [ht, hd2])
      subst this
      exact hset
    have hagr : ∀ ψ, futP φ ψ → ∀ t, (∀ (j : Nat) (o2 : Oper), j < n → (ops' (tabP ψ))[j]? = some o2 → o2.dst = some t → d.getD j false = true) → a.tmps[t]? = (A (tabP ψ)).tmps[t]? := fun ψ hψ => headQ_agree (fun _ _ hL => hL.2) (f + 1) d a (hall ψ hψ)
    by_cases hip : i = p
    · subst hip
      obtain rfl : o = op' := by rw [hp] at ho; injection ho with ho; exact ho.symm
      rw [hun] at hdp'
      have hφ2 : φ = 0 ∨ φ = 2 := by
        rcases (show φ = 0 ∨ φ = 1 ∨ φ = 2 ∨ φ = 3 ∨ φ = 4 by omega) with h | h | h | h | h
        · exact Or.inl h
        · subst h; cases hdp'
        · exact Or.inr h
        · subst h; cases hdp'
        · subst h; cases hdp'
      obtain ⟨w', hrun, hw'⟩ := hP φ hφ2 w hw
      have hnext : ∀ ψ, futP (if φ = 0 then 1 else 4) ψ → futP φ ψ ∧ tabP ψ = tabP φ := fun ψ hψ => by
        rcases hφ2 with h | h <;> subst h <;> unfold futP at * <;> simp at hψ ⊢ <;> obtain ⟨h4, h5⟩ := hψ
        · rcases h5 with rfl | rfl <;> exact ⟨by omega, rfl⟩
        · subst h5; exact ⟨by omega, rfl⟩
      unfold wpOp
      simp only [ho, wanted_free (hguard i o ho), if_true]
      refine Or.inl ?_
      unfold Oper.wp
      rw [exec_agree (A := A (tabP φ)) (sel i o · · ho) (fun t ht => hagr φ ⟨hφ, Or.inr (Or.inl rfl)⟩ t (fun j q2 hj hq2 hd2 => by
        obtain ⟨e, he, hb, rfl⟩ := hdp t ht _ j q2 hj hq2 hd2
        exact hwait e he hb)), hrun]
      simp only [Oper.upon]
      refine ih _ _ _ (if φ = 0 then 1 else 4) (by split <;> omega) inv' ?_ ?_ hw' (fun ψ hψ => ?_)
      · rw [hset]; rcases hφ2 with h | h <;> subst h <;> rfl
      · rw [getD_set_ne false hpq, hdq']; rcases hφ2 with h | h <;> subst h <;> rfl
      · obtain ⟨hf, ht⟩ := hnext ψ hψ
        obtain ⟨v, o2, -, -, -, K, hag⟩ := hstep ψ hf
        rw [put_is hag (fun t he => hpA _ t he), ht] at K
        rw [ht]
        exact K
    by_cases hiq : i = q
    · subst hiq
      obtain rfl : o = oq' := by rw [hq] at ho; injection ho with ho; exact ho.symm
      rw [hun] at hdq'
      have hφ2 : φ = 0 ∨ φ = 1 := by
        rcases (show φ = 0 ∨ φ = 1 ∨ φ = 2 ∨ φ = 3 ∨ φ = 4 by omega) with h | h | h | h | h
        · exact Or.inl h
        · exact Or.inr h
        · subst h; cases hdq'
        · subst h; cases hdq'
        · subst h; cases hdq'
      obtain ⟨w', hrun, hw'⟩ := hQ φ hφ2 w hw
      have hnext : ∀ ψ, futP (if φ = 0 then 2 else 3) ψ → futP φ ψ ∧ tabP ψ = (if φ = 0 then true else false) := fun ψ hψ => by
        rcases hφ2 with h | h <;> subst h <;> unfold futP at * <;> simp at hψ ⊢ <;> obtain ⟨h4, h5⟩ := hψ
        · rcases h5 with rfl | rfl <;> exact ⟨by omega, rfl⟩
        · subst h5; exact ⟨by omega, rfl⟩
      have hfut2 : futP φ (if φ = 0 then 2 else 3) := by rcases hφ2 with h | h <;> subst h <;> unfold futP <;> simp
      have htab2 : tabP (if φ = 0 then 2 else 3) = (if φ = 0 then true else false) := by rcases hφ2 with h | h <;> subst h <;> rfl
      unfold wpOp
      simp only [ho, wanted_free (hguard i o ho), if_true]
      refine Or.inl ?_
      unfold Oper.wp
      rw [exec_agree (A := A (if φ = 0 then true else false)) (sel i o · · ho) (fun t ht => by
        rw [← htab2]
        exact hagr _ hfut2 t (fun j q2 hj hq2 hd2 => by
          obtain ⟨e, he, hb, rfl⟩ := hdq t ht _ j q2 hj hq2 hd2
          exact hwait e he hb)), hrun]
      simp only [Oper.upon]
      refine ih _ _ _ (if φ = 0 then 2 else 3) (by split <;> omega) inv' ?_ ?_ hw' (fun ψ hψ => ?_)
      · rw [getD_set_ne false (Ne.symm hpq), hdp']; rcases hφ2 with h | h <;> subst h <;> rfl
      · rw [hset]; rcases hφ2 with h | h <;> subst h <;> rfl
      · obtain ⟨hf, ht⟩ := hnext ψ hψ
        obtain ⟨v, o2, -, -, -, K, hag⟩ := hstep ψ hf
        rw [put_is hag (fun t he => hqA _ t he), ht] at K
        rw [ht]
        exact K
    have hkp : (d.setIfInBounds i true).getD p false = pdP φ := by rw [getD_set_ne false hip]; exact hdp'
    have hkq : (d.setIfInBounds i true).getD q false = qdP φ := by rw [getD_set_ne false hiq]; exact hdq'
    by_cases hir : i = r
    · subst hir
      obtain rfl : o = or' := by rw [hr] at ho; injection ho with ho; exact ho.symm
      have htrue : d.getD p false = true := by
        obtain ⟨e, he, hb, e2⟩ := hrp
        rw [← e2]; exact hwait e he hb
      rw [htrue] at hdp'
      have hφ2 : φ = 1 ∨ φ = 3 ∨ φ = 4 := by
        rcases (show φ = 0 ∨ φ = 1 ∨ φ = 2 ∨ φ = 3 ∨ φ = 4 by omega) with h | h | h | h | h
        · subst h; cases hdp'
        · exact Or.inl h
        · subst h; cases hdp'
        · exact Or.inr (Or.inl h)
        · exact Or.inr (Or.inr h)
      unfold wpOp
      simp only [ho, wanted_free (hguard i o ho), if_true]
      refine Or.inl (Oper.wp_of_quiet (K := fun b => b = a.put o.dst vr) hw (fun b w' hw' hb => ?_) ⟨vr, fun u hu => ?_, rfl⟩)
      · subst hb
        refine ih _ _ _ φ hφ inv' hkp hkq hw' (fun ψ hψ => ?_)
        obtain ⟨v, o2, -, -, -, K, hag⟩ := hstep ψ hψ
        rwa [put_is hag (fun t he => hrA _ t he)] at K
      · have := hR φ hφ2 u hu
        unfold Oper.quietAt at this ⊢
        rwa [exec_agree (A := A (tabP φ)) (sel i o · · ho) (fun t ht => hagr φ ⟨hφ, Or.inr (Or.inl rfl)⟩ t (fun j q2 hj hq2 hd2 => by
          obtain ⟨e, he, hb, rfl⟩ := hdr t ht _ j q2 hj hq2 hd2
          exact hwait e he hb))]
    · obtain ⟨v0, o2, ho2, _, y0, _, hag0⟩ := hstep φ ⟨hφ, Or.inr (Or.inl rfl)⟩
      obtain rfl : o = o2 := by rw [hsame (tabP φ) i hip hiq hir, ho2] at ho; injection ho with ho; exact ho.symm
      unfold wpOp
      simp only [ho, wanted_free (hguard i o ho), if_true]
      refine Or.inl (Oper.wp_of_quiet (K := fun b => b = a.put o.dst v0) hw (fun b w' hw' hb => ?_) ⟨v0, yields_free (hguard' _ i o ho2) y0, rfl⟩)
      subst hb
      refine ih _ _ _ φ hφ inv' hkp hkq hw' (fun ψ hψ => ?_)
      obtain ⟨v, o3, ho3, _, _, K, hag⟩ := hstep ψ hψ
      have : a.put o.dst v0 = a.put o.dst v := put_same fun t ht => by
        rw [hag0 t ht, hag t ht]
        have hs := hsize (tabP φ)
        obtain ⟨zp, hzp⟩ : ∃ z, (ops' (tabP φ))[p]? = some z := ⟨_, Array.getElem?_eq_getElem (by omega)⟩
        obtain ⟨zq, hzq⟩ : ∃ z, (ops' (tabP φ))[q]? = some z := ⟨_, Array.getElem?_eq_getElem (by omega)⟩
        have hne1 : op'.dst ≠ some t := fun e => hip (hdst (tabP φ) i p o zp hin hpn ho2 hzp (by rw [ht]; simp) (by rw [ht, hdd (tabP φ) p op' zp hp hzp, e]))
        have hne2 : oq'.dst ≠ some t := fun e => hiq (hdst (tabP φ) i q o zq hin hqn ho2 hzq (by rw [ht]; simp) (by rw [ht, hdd (tabP φ) q oq' zq hq hzq, e]))
        have hx := hAA t hne1 hne2
        cases h1 : tabP φ <;> cases h2 : tabP ψ <;> first | rfl | exact hx | exact hx.symm
      rw [this]
      exact K
end
/-- an operation that only hands a value on -/
def ghost (o : Oper) (v : Value) : Oper := { o with op := .move (.const v) }
def gh : List Oper → Nat → Value → List Oper
  | [], _, _ => []
  | o :: l, 0, v => ghost o v :: l
  | o :: l, k + 1, v => o :: gh l k v
theorem gh_get (v : Value) : ∀ (l : List Oper) (k i : Nat), (gh l k v)[i]? = if i = k then (l[i]?).map (ghost · v) else l[i]?
  | [], _, _ => by simp [gh]
  | o :: l, 0, 0 => by simp [gh]
  | o :: l, 0, i + 1 => by simp [gh]
  | o :: l, k + 1, 0 => by simp [gh]
  | o :: l, k + 1, i + 1 => by
    simp only [gh, List.getElem?_cons_succ, gh_get v l k i]
    by_cases h : i = k
    · rw [if_pos h, if_pos (by omega)]
    · rw [if_neg h, if_neg (by omega)]
theorem gh_len (v : Value) : ∀ (l : List Oper) (k : Nat), (gh l k v).length = l.length
  | [], _ => rfl
  | _ :: _, 0 => rfl
  | o :: l, k + 1 => by simp [gh, gh_len v l k]
def depsB (l : List Oper) (n k : Nat) : Bool :=
  match l[k]? with
  | none => false
  | some o => (o.looksAt l.toArray).all fun t => (List.range n).all fun j => match l[j]? with
    | none => true
    | some q => (q.dst != some t) || o.after.any fun e => Region.binds .any e && e.on == j
def twoB (l : List Oper) (n p r : Nat) : Bool :=
  Region.lexTailB .any l.toArray n && l.all (fun o => o.guard.isNone) && decide (p < n) && decide (p ≠ r) && decide (r < n) &&
    (List.range n).all (fun i => (List.range n).all fun j => match l[i]?, l[j]? with
      | some o, some q => (i == j) || o.dst.isNone || (o.dst != q.dst)
      | _, _ => true) && depsB l n p && depsB l n r && (match l[r]? with
      | none => false
      | some o => o.after.any fun e => Region.binds .any e && e.on == p)
theorem seqB_congr {md : Region.Mode} {ops ops' : Array Oper} (h : ∀ d, Region.ready md ops d = Region.ready md ops' d) : ∀ (g k : Nat) (d : Array Bool), Region.seqB md ops g k d = Region.seqB md ops' g k d
  | 0, _, _ => by simp only [Region.seqB, h]
  | g + 1, k, d => by simp only [Region.seqB, h, seqB_congr h g]
theorem depsB_spec {l : List Oper} {n k : Nat} {o : Oper} (h : depsB l n k = true) (ho : l[k]? = some o) : ∀ t, t ∈ o.looksAt l.toArray → ∀ (j : Nat) (q : Oper), j < n → l[j]? = some q → q.dst = some t → ∃ e ∈ o.after, Region.binds .any e = true ∧ e.on = j := by
  intro t ht j q hj hq hd
  unfold depsB at h
  rw [ho] at h
  simp only [List.all_eq_true, List.mem_range] at h
  have := h t ht j hj
  simp only [hq, hd, bne_self_eq_false, Bool.false_or, Array.any_eq_true] at this
  obtain ⟨i, hi, he⟩ := this
  simp only [Bool.and_eq_true, beq_iff_eq] at he
  exact ⟨o.after[i], Array.getElem_mem hi, he.1, he.2⟩
def threeB (l : List Oper) (n p q r : Nat) : Bool :=
  Region.noSelect l.toArray && decide (n < l.toArray.size) && Region.sinkB .any l.toArray n && Region.chainB .any l.toArray n && l.all (fun o => o.guard.isNone) && decide (p < n) && decide (q < n) && decide (p ≠ r) && decide (p ≠ q) && decide (q ≠ r) &&
    (List.range n).all (fun i => (List.range n).all fun j => match l[i]?, l[j]? with
      | some o, some q => (i == j) || o.dst.isNone || (o.dst != q.dst)
      | _, _ => true) && depsB l n p && depsB l n q && depsB l n r && (match l[r]? with
      | none => false
      | some o => o.after.any fun e => Region.binds .any e && e.on == p)
def gh3 (l : List Oper) (p q r : Nat) (vp vq vr : Value) : List Oper := gh (gh (gh l p vp) q vq) r vr
/-- A drawn region in which two operations make a block each (at p and q), a third (r) reads the block of the first, and all others of the first n are quiet; behind them the rest in the text's order. -/
theorem wp_region_three_tail {P : Program} {id : Nat} {Q : Exit → Act → World → Prop} {a : Act} {w : World} {l : List Oper} {C : Nat → World → Prop} (n p q r : Nat) (vp vq : Bool → Value) (vr : Value) (A : Bool → Act) {xp xq xr : Tmp} {op' oq' or' : Oper} (hm : P.follows .mixedOrders = true)
    (hB : threeB l n p q r = true) (hB' : ∀ b, Region.lexTailB .any (gh3 l p q r (vp b) (vq b) vr).toArray n = true) (hp : l[p]? = some op') (hq : l[q]? = some oq') (hr : l[r]? = some or') (hxp : op'.dst = some xp) (hxq : oq'.dst = some xq) (hxr : or'.dst = some xr) (hC : C 0 w.drew)
    (hw : ∀ ψ, ψ ≤ 4 → wpQuiet P (gh3 l p q r (vp (tabP ψ)) (vq (tabP ψ)) vr).toArray (C ψ) (fun a' => a' = A (tabP ψ)) ((gh3 l p q r (vp (tabP ψ)) (vq (tabP ψ)) vr).take n) a)
    (hpA : ∀ b, (A b).tmps[xp]? = some (vp b)) (hqA : ∀ b, (A b).tmps[xq]? = some (vq b)) (hrA : ∀ b, (A b).tmps[xr]? = some vr)
    (hAA : ∀ t, xp ≠ t → xq ≠ t → (A false).tmps[t]? = (A true).tmps[t]?)
    (hP : ∀ φ, φ = 0 ∨ φ = 2 → ∀ w, C φ w → ∃ w', (execOp (A (tabP φ)).eval op').run P w = .ok (.value (vp (tabP φ))) w' ∧ C (if φ = 0 then 1 else 4) w')
    (hQ : ∀ φ, φ = 0 ∨ φ = 1 → ∀ w, C φ w → ∃ w', (execOp (A (if φ = 0 then true else false)).eval oq').run P w = .ok (.value (vq (if φ = 0 then true else false))) w' ∧ C (if φ = 0 then 2 else 3) w')
    (hR : ∀ φ, φ = 1 ∨ φ = 3 ∨ φ = 4 → ∀ w, C φ w → or'.quietAt P (A (tabP φ)) (C φ) w vr)
    (h : ∀ φ, φ = 3 ∨ φ = 4 → ∀ w', C φ w' → wpList P l.toArray Q (l.drop n) (A (tabP φ)) w') : (Code.region id l.toArray true).wp P Q a w := by
  unfold threeB at hB
  simp only [Bool.and_eq_true, decide_eq_true_eq] at hB
  obtain ⟨⟨⟨⟨⟨⟨⟨⟨⟨⟨⟨⟨⟨⟨hns, hn⟩, hsk⟩, hch⟩, hG⟩, hpn⟩, hqn⟩, hpr⟩, hpq⟩, hqr⟩, hD⟩, hdp⟩, hdq⟩, hdr⟩, hrp⟩ := hB
  have hget : ∀ (b : Bool) (i : Nat), (gh3 l p q r (vp b) (vq b) vr)[i]? = if i = r then (l[i]?).map (ghost · vr) else if i = q then (l[i]?).map (ghost · (vq b)) else if i = p then (l[i]?).map (ghost · (vp b)) else l[i]? := fun b i => by
    rw [gh3, gh_get, gh_get, gh_get]
    by_cases h1 : i = r
    · rw [if_pos h1, if_pos h1, if_neg (by omega), if_neg (by omega)]
    · rw [if_neg h1, if_neg h1]
      by_cases h2 : i = q
      · rw [if_pos h2, if_pos h2, if_neg (by omega)]
      · rw [if_neg h2, if_neg h2]
  have hlen : ∀ b, (gh3 l p q r (vp b) (vq b) vr).length = l.length := fun b => by rw [gh3, gh_len, gh_len, gh_len]
  obtain ⟨l', hl'⟩ : ∃ l' : Bool → List Oper, ∀ b, gh3 l p q r (vp b) (vq b) vr = l' b := ⟨_, fun _ => rfl⟩
  simp only [hl'] at hget hlen hw hB'
  clear hl'
  have hshape : ∀ (b : Bool) (i : Nat) (o : Oper), (l' b)[i]? = some o → ∃ q, l[i]? = some q ∧ o.after = q.after ∧ o.dst = q.dst ∧ o.guard = q.guard := fun b i o ho => by
    rw [hget] at ho
    split at ho
    · obtain ⟨q, hq, rfl⟩ := Option.map_eq_some_iff.1 ho
      exact ⟨q, hq, rfl, rfl, rfl⟩
    · split at ho
      · obtain ⟨q, hq, rfl⟩ := Option.map_eq_some_iff.1 ho
        exact ⟨q, hq, rfl, rfl, rfl⟩
      · split at ho
        · obtain ⟨q, hq, rfl⟩ := Option.map_eq_some_iff.1 ho
          exact ⟨q, hq, rfl, rfl, rfl⟩
        · exact ⟨o, ho, rfl, rfl, rfl⟩
  have hafter : ∀ (b : Bool) (i : Nat), (l.toArray[i]?).map (fun o : Oper => o.after) = ((l' b).toArray[i]?).map (fun o : Oper => o.after) := fun b i => by
    simp only [List.getElem?_toArray]
    rw [hget]
    split
    · cases l[i]? <;> rfl
    · split
      · cases l[i]? <;> rfl
      · split
        · cases l[i]? <;> rfl
        · rfl
  have hready : ∀ b d, Region.ready .any (l' b).toArray d = Region.ready .any l.toArray d := fun b d => by
    unfold Region.ready
    rw [show (l' b).toArray.size = l.toArray.size by simp [hlen]]
    congr 1
    funext i
    have := hafter b i
    cases h1 : l.toArray[i]? <;> cases h2 : (l' b).toArray[i]? <;> simp_all
  have hnl : n < l.length := by simpa using hn
  have e1 : ∀ b, ((l' b).take n).length = n := fun b => by rw [List.length_take, hlen]; omega
  have e2 : (l.drop n).length = l.toArray.size - n := by simp
  have e3 : ∀ b, (l' b).toArray.size = l.toArray.size := fun b => by simp [hlen]
  obtain ⟨g, hg⟩ : ∃ g, l.toArray.size - n = g + 1 := ⟨l.toArray.size - n - 1, by simp; omega⟩
  have inv0 : ∀ l0 : List Oper, HeadInv .any l0.toArray n (Array.replicate l0.toArray.size false) := fun l0 =>
    ⟨by simp, fun j q _ hl => absurd hl (by rw [getD_replicate_false]; decide), fun t _ ht => getD_in (by simpa using ht) (getD_replicate_false _ _)⟩
  have H : ∀ ψ, ψ ≤ 4 → headQ P .any (l' (tabP ψ)).toArray (C ψ) n (fun d' a' => Region.seqB .any l.toArray (g + 1) n d' = true ∧ a' = A (tabP ψ)) n (Array.replicate l.toArray.size false) a := fun ψ hψ => by
    have hb := hB' (tabP ψ)
    simp only [Region.lexTailB, Bool.and_eq_true, decide_eq_true_eq] at hb
    obtain ⟨⟨⟨⟨hns', hn'⟩, hsk'⟩, hch'⟩, hlex'⟩ := hb
    have := headQ_lex (C := C ψ) (md := .any) (g := (l' (tabP ψ)).toArray.size - n) hns' hsk' hch' hn' ((l' (tabP ψ)).take n) 0 _ a
      (fun j hj => by rw [e1] at hj; simp [hj]) (by rw [e1, Nat.zero_add]) (inv0 (l' (tabP ψ))) (by rw [e1]; exact hlex') (hw ψ hψ)
    rw [e1, e3, hg] at this
    simpa only [seqB_congr (hready (tabP ψ))] using this
  have K := headThree (P := P) (md := .any) (ops := l.toArray) (ops' := fun b => (l' b).toArray) (n := n) (p := p) (q := q) (r := r) (g := g) (A := A) (C := C) (Q := Q) (vp := vp) (vq := vq) (vr := vr) (op' := op') (oq' := oq') (or' := or')
    (fun b => (e3 b).symm) hafter (fun b i h1 h2 h3 => by simp only [List.getElem?_toArray]; rw [hget, if_neg h3, if_neg h2, if_neg h1]) hns
    (fun i o ho => by
      simp only [List.getElem?_toArray] at ho
      simp only [List.all_eq_true] at hG
      have := hG o (List.mem_of_getElem? ho)
      simpa using this)
    (fun b i o ho => by
      simp only [List.getElem?_toArray] at ho
      obtain ⟨q, hq, -, -, e⟩ := hshape b i o ho
      simp only [List.all_eq_true] at hG
      have := hG q (List.mem_of_getElem? hq)
      rw [e]; simpa using this)
    (by simpa using hp) (by simpa using hq) (by simpa using hr)
    (fun b i o o2 ho ho2 => by
      simp only [List.getElem?_toArray] at ho ho2
      obtain ⟨q, hq, -, e, -⟩ := hshape b i o2 ho2
      rw [ho] at hq; injection hq with hq; rw [e, hq])
    (fun b i j o q hi hj ho hq hne he => by
      simp only [List.getElem?_toArray] at ho hq
      obtain ⟨o1, h1, -, d1, -⟩ := hshape b i o ho
      obtain ⟨q1, h2, -, d2, -⟩ := hshape b j q hq
      simp only [List.all_eq_true, List.mem_range] at hD
      have := hD i hi j hj
      rw [h1, h2] at this
      simp only [Bool.or_eq_true, beq_iff_eq, bne_iff_ne, Option.isNone_iff_eq_none] at this
      rw [d1] at hne he
      rw [d2] at he
      rcases this with (h3 | h3) | h3
      · exact h3
      · exact absurd h3 hne
      · exact absurd he h3)
    hpn hqn hn hpr hpq hqr hsk hch
    (fun b t ht => by rw [hxp] at ht; injection ht with ht; rw [← ht]; exact hpA b) (fun b t ht => by rw [hxq] at ht; injection ht with ht; rw [← ht]; exact hqA b) (fun b t ht => by rw [hxr] at ht; injection ht with ht; rw [← ht]; exact hrA b)
    (fun t h1 h2 => hAA t (fun e => h1 (by rw [hxp, e])) (fun e => h2 (by rw [hxq, e])))
    (fun t ht b j o hj ho hd => by
      simp only [List.getElem?_toArray] at ho
      obtain ⟨q, hq, -, e, -⟩ := hshape b j o ho
      exact depsB_spec hdp hp t ht j q hj hq (by rw [← e]; exact hd))
    (fun t ht b j o hj ho hd => by
      simp only [List.getElem?_toArray] at ho
      obtain ⟨q1, hq1, -, e, -⟩ := hshape b j o ho
      exact depsB_spec hdq hq t ht j q1 hj hq1 (by rw [← e]; exact hd))
    (fun t ht b j o hj ho hd => by
      simp only [List.getElem?_toArray] at ho
      obtain ⟨q, hq, -, e, -⟩ := hshape b j o ho
      exact depsB_spec hdr hr t ht j q hj hq (by rw [← e]; exact hd))
    (by
      rw [hr] at hrp
      simp only [Array.any_eq_true] at hrp
      obtain ⟨i, hi, he⟩ := hrp
      simp only [Bool.and_eq_true, beq_iff_eq] at he
      exact ⟨or'.after[i], Array.getElem_mem hi, he.1, he.2⟩)
    hP hQ hR
    (fun φ d w' hφ hw' hd => by
      have := wpAny_of_seq (P := P) (ops := l.toArray) (md := .any) (Q' := Q) (l.drop n) n d (A (tabP φ)) w' (fun j => by simp [List.getElem?_drop]) (by rw [e2, hg]; exact hd) (h φ hφ w' hw')
      rwa [e2, hg] at this) n
    (Array.replicate l.toArray.size false) a w.drew 0 (by omega) (inv0 l) (by rw [getD_replicate_false]; rfl) (by rw [getD_replicate_false]; rfl) hC (fun ψ hψ => H ψ hψ.1)
  rw [show g + 1 + n = l.toArray.size by simp at hg ⊢; omega] at K
  exact wp_region_any hm K
def putAll : Act → List Oper → List Value → Act
  | a, o :: l, v :: vs => putAll (a.put o.dst v) l vs
  | a, _, _ => a
theorem quiet_drew {P : Program} {f : FuncId} {args : Array Value} {w : World} {n : Nat} {v : Value}
    (h : Calls P f args (w.drewN n) fun e w' => e = .returned v ∧ ∃ j, w' = (w.drewN n).drewN j) : Calls P f args (w.drewN n) fun e w'' => e = .returned v ∧ ∃ m, w'' = w.drewN m :=
  h.mono fun _ _ ⟨he, j, hj⟩ => ⟨he, n + j, by rw [hj]; simp [World.drewN, Nat.add_assoc]⟩
def two (x y : Act) (b : Bool) : Act := match b with
  | false => x
  | true => y
theorem aa_of {a b : Act} {x y : Tmp} (u v : Value) (e : b.tmps = (a.tmps.setIfInBounds x u).setIfInBounds y v) {t : Tmp} (h1 : x ≠ t) (h2 : y ≠ t) : a.tmps[t]? = b.tmps[t]? := by
  rw [e, Array.getElem?_setIfInBounds_ne h2, Array.getElem?_setIfInBounds_ne h1]
theorem wp_name {P : Program} {c : Code} {Q : Exit → Act → World → Prop} {a : Act} {W : World} {R : World → Prop} (hR : R W) (h : ∀ W5, R W5 → c.wp P Q a W5) : c.wp P Q a W := h W hR
theorem letter_nat {k : Nat} (hk : k ≤ 100) : (UInt8.ofNat (97 + k)).toNat = 97 + k := by
  simp only [UInt8.toNat_ofNat']
  omega
end Go.Proofs.Ytfbnckgfgaddkaa
