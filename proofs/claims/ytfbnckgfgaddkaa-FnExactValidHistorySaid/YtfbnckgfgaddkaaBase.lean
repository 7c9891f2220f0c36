/- Small laws on worlds, slices and drawn regions; no program in sight. -/
import Derived.WalkKit
import Derived.WalkSpells
import Derived.WalkLawsBesides
import Derived.Lib.Hide
import Derived.Deep.QuietTactic
import Derived.BigQuiet
import Derived.StillTail
namespace Go.Proofs.Ytfbnckgfgaddkaa
set_option linter.unusedSimpArgs false
set_option linter.unusedVariables false
open Go.RowKit

/-- Worlds behind W in which nothing that was there has changed. -/
structure Past (W : World) where
  w : World
  h : Below W.heap.size W w
instance (W : World) : Nonempty (Past W) := ⟨⟨W, Below.refl _ _⟩⟩

theorem Bel.trans {a b c : World} (h : Below a.heap.size a b) (k : Below b.heap.size b c) : Below a.heap.size a c := h.trans (k.mono h.size)
theorem Bel.alloc {a w : World} (h : Below a.heap.size a w) (o : Obj) : Below a.heap.size a (w.alloc o) := h.alloc h.size o
theorem Bel.drewN {B : Nat} {a w : World} (h : Below B a w) (n : Nat) : Below B a (w.drewN n) := ⟨h.os, h.tape, h.output, h.size, h.block⟩
theorem Bel.setCell {a w : World} (h : Below a.heap.size a w) {p : Addr} (hp : a.heap.size ≤ p.block) (u : Value) : Below a.heap.size a (w.setCell p u) := h.setCell hp u

section
variable {P : Program} {f : FuncId} {args : Array Value} {W : World}
theorem Past.call {v : Value} (x : Past W) (h : Calls P f args x.w fun e w' => e = .returned v ∧ Below x.w.heap.size x.w w') :
    Calls P f args x.w fun e w'' => e = .returned v ∧ ∃ y : Past W, w'' = y.w :=
  h.mono fun _ _ ⟨he, hb⟩ => ⟨he, ⟨_, Bel.trans x.h hb⟩, rfl⟩
theorem Past.callB {v b : Bool} (x : Past W) (hv : v = b) (h : Calls P f args x.w fun e w' => e = .returned (.bool v) ∧ Below x.w.heap.size x.w w') :
    Calls P f args x.w fun e w'' => e = .returned (.bool b) ∧ ∃ y : Past W, w'' = y.w := Past.call x (hv ▸ h)
theorem Past.same {v : Value} (x : Past W) (h : Calls P f args x.w fun e w' => e = .returned v ∧ x.w = w') :
    Calls P f args x.w fun e w'' => e = .returned v ∧ ∃ y : Past W, w'' = y.w :=
  h.mono fun _ _ ⟨he, hb⟩ => ⟨he, x, hb.symm⟩
theorem Past.sameB {v b : Bool} (x : Past W) (hv : v = b) (h : Calls P f args x.w fun e w' => e = .returned (.bool v) ∧ x.w = w') :
    Calls P f args x.w fun e w'' => e = .returned (.bool b) ∧ ∃ y : Past W, w'' = y.w := Past.same x (hv ▸ h)
theorem Calls.boolIs {v b : Bool} {R : World → Prop} (hv : v = b) (h : Calls P f args W fun e w' => e = .returned (.bool v) ∧ R w') :
    Calls P f args W fun e w' => e = .returned (.bool b) ∧ R w' := hv ▸ h
end
theorem Calls.quiet_of_same' {P : Program} {f : FuncId} {args : Array Value} {w : World} {n : Nat} {v : Value}
    (h : Calls P f args (w.drewN n) fun e w' => e = .returned v ∧ w.drewN n = w') : Calls P f args (w.drewN n) fun e w'' => e = .returned v ∧ ∃ m, w'' = w.drewN m :=
  h.mono fun _ _ ⟨he, hm⟩ => ⟨he, n, hm.symm⟩
theorem Calls.intIs {P : Program} {f : FuncId} {args : Array Value} {W : World} {k : IntKind} {v b : Int} {R : World → Prop} (hv : v = b) (h : Calls P f args W fun e w' => e = .returned (.int k v) ∧ R w') :
    Calls P f args W fun e w' => e = .returned (.int k b) ∧ R w' := hv ▸ h
theorem Past.callI {P : Program} {f : FuncId} {args : Array Value} {W : World} {k : IntKind} {v b : Int} (x : Past W) (hv : v = b) (h : Calls P f args x.w fun e w' => e = .returned (.int k v) ∧ Below x.w.heap.size x.w w') :
    Calls P f args x.w fun e w'' => e = .returned (.int k b) ∧ ∃ y : Past W, w'' = y.w := Past.call x (hv ▸ h)
theorem Past.cell {W : World} {p : Addr} {v : Value} (h : W.cell? p = some v) (hb : p.block < W.heap.size) : ∀ x : Past W, x.w.cell? p = some v :=
  fun x => (x.h.cell hb).trans h
theorem wp_region_past {P : Program} {id : Nat} {Q : Exit → Act → World → Prop} {a : Act} {w : World} {l : List Oper} (hm : P.follows .mixedOrders = true) (hB : Region.lexB .any l.toArray = true)
    (h : wpQuiet P l.toArray (fun w' => ∃ x : Past w, w' = x.w) (fun a' => ∀ w', (∃ x : Past w, w' = x.w) → Q .normal a' w') l a) : (Code.region id l.toArray true).wp P Q a w :=
  wp_region_quiet (C := fun w' => ∃ x : Past w, w' = x.w) hm hB ⟨⟨w.drew, (Below.refl _ _).drew⟩, rfl⟩ (by simpa using h)
/-! A drawn region whose first n operations are quiet in a class of worlds, and whose others can only come behind them, one after the other. -/
section
variable {P : Program} {md : Region.Mode} {ops : Array Oper} {C : World → Prop} {n : Nat}
def headQ (P : Program) (md : Region.Mode) (ops : Array Oper) (C : World → Prop) (n : Nat) (L : Array Bool → Act → Prop) : Nat → Array Bool → Act → Prop
  | 0, d, a => L d a
  | f + 1, d, a => Region.ready md ops d ≠ [] ∧ ∀ i, i ∈ Region.ready md ops d → i < n ∧ qOp P ops C i (headQ P md ops C n L f (d.setIfInBounds i true)) a
theorem headQ_any {g : Nat} {L : Array Bool → Act → Prop} {Q : Exit → Act → World → Prop} (hL : ∀ d a w, C w → L d a → wpAny P md ops Q g d a w) (f : Nat) :
    ∀ (d : Array Bool) (a : Act) (w : World), C w → headQ P md ops C n L f d a → wpAny P md ops Q (g + f) d a w := by
  induction f with
  | zero => intro d a w hw h; exact hL d a w hw h
  | succ f ih =>
    intro d a w hw h
    refine ⟨fun e => absurd e h.1, fun i hi => ?_⟩
    exact wpOp_of_qOp hw (fun a' w' hw' k => ih _ a' w' hw' k) (h.2 i hi).2
theorem headQ_take {i : Nat} {o : Oper} {v : Value} {L : Array Bool → Act → Prop} (hi : ops[i]? = some o) (hns : Region.noSelect ops = true)
    (hsk : Region.sinkB md ops n = true) (hch : Region.chainB md ops n = true) (hn : n < ops.size) (hin : i < n) (hL : ∀ d a, L d a → ∀ j, j ∈ Region.ready md ops d → n ≤ j) (f : Nat) :
    ∀ (d : Array Bool) (a : Act), HeadInv md ops n d → i ∈ Region.ready md ops d → YieldsIn P ops C o v a →
      (∀ j q, ops[j]? = some q → j ≠ i → d.getD j true = false → (∀ e ∈ q.after, Region.binds md e = true → e.on ≠ i) → o.apart ops q = true) →
      headQ P md ops C n L f (d.setIfInBounds i true) (a.put o.dst v) → headQ P md ops C n L (f + 1) d a := by
  have sel := Region.noSelect_spec hns
  induction f with
  | zero =>
    intro d a inv hr hy _ H
    have un := (mem_ready.1 hr).1
    refine ⟨List.ne_nil_of_mem hr, fun j hj => ?_⟩
    rcases Nat.lt_or_ge j n with hjn | hjn
    · refine ⟨hjn, ?_⟩
      by_cases e : j = i
      · exact e ▸ hy.qOp hi H
      · exact absurd (hL _ _ H j (ready_mono hj e)) (by omega)
    · exact absurd hj (tail_waits hsk hch hn inv _ i rfl hin un j hjn)
  | succ f ih =>
    intro d a inv hr hy free H
    have un := (mem_ready.1 hr).1
    refine ⟨List.ne_nil_of_mem hr, fun j hj => ?_⟩
    rcases Nat.lt_or_ge j n with hjn | hjn
    · refine ⟨hjn, ?_⟩
      by_cases e : j = i
      · exact e ▸ hy.qOp hi H
      · obtain ⟨unj, q, hq, hall⟩ := mem_ready.1 hj
        have apart : o.apart ops q = true := free j q hq e unj fun x hx hb he => by
          have h1 := hall x hx hb
          rw [he, getD_both un] at h1
          cases h1
        refine qOp_mono (fun a' h3 => ?_) (qOp_put hq apart (fun cs b => sel i o cs b hi) (fun cs b => sel j q cs b hq) hy (H.2 j (ready_mono hj e)).2)
        refine ih _ a' (inv.set hj hjn) (ready_mono hr (Ne.symm e)) h3.1 (fun k r hk hki hun hno => ?_) ?_
        · refine free k r hk hki ?_ hno
          rcases Decidable.em (j = k) with hjk | hjk
          · exact hjk ▸ unj
          · rwa [getD_set_ne true hjk] at hun
        · rw [Array.setIfInBounds_comm _ _ e]; exact h3.2
    · exact absurd hj (tail_waits hsk hch hn inv _ i rfl hin un j hjn)
theorem headQ_lex {g : Nat} {Lq : Act → Prop} (hns : Region.noSelect ops = true) (hsk : Region.sinkB md ops n = true) (hch : Region.chainB md ops n = true) (hn : n < ops.size) (l : List Oper) :
    ∀ (k : Nat) (d : Array Bool) (a : Act), (∀ j, j < l.length → l[j]? = ops[k + j]?) → k + l.length = n → HeadInv md ops n d → Region.lexHead md ops g l.length k d = true →
      wpQuiet P ops C Lq l a → headQ P md ops C n (fun d' a' => Region.seqB md ops g n d' = true ∧ Lq a') l.length d a := by
  induction l with
  | nil =>
    intro k d a _ hk _ hB h
    simp only [List.length_nil, Nat.add_zero] at hk
    subst hk
    simp only [List.length_nil, Region.lexHead] at hB
    exact ⟨hB, h⟩
  | cons o l ih =>
    intro k d a hl hk inv hB h
    have h0 : ops[k]? = some o := by
      have := hl 0 (by simp)
      simpa using this.symm
    simp only [List.length_cons] at hk hB ⊢
    simp only [Region.lexHead, Bool.and_eq_true] at hB
    have hr : k ∈ Region.ready md ops d := by simpa using hB.1.1
    have hkn : k < n := by omega
    obtain ⟨v, hy, hK⟩ := yieldsIn_of_qOp (P := P) (C := C) h0 (show qOp P ops C k (wpQuiet P ops C Lq l) a by unfold qOp; simp only [h0]; exact h)
    refine headQ_take h0 hns hsk hch hn hkn (fun d' a' hd => seqB_ready hd.1) l.length d a inv hr hy (Region.free_spec h0 hB.1.2) ?_
    refine ih (k + 1) _ _ (fun j hj => ?_) (by omega) (inv.set hr hkn) hB.2 hK
    have := hl (j + 1) (by simp; omega)
    rw [show k + 1 + j = k + (j + 1) by omega, ← this]
    simp
end
theorem wp_region_past_tail {P : Program} {id : Nat} {Q : Exit → Act → World → Prop} {a : Act} {w : World} {l : List Oper} (n : Nat) (hm : P.follows .mixedOrders = true) (hB : Region.lexTailB .any l.toArray n = true)
    (h : wpQuiet P l.toArray (fun w' => ∃ x : Past w, w' = x.w) (fun a' => ∀ w', (∃ x : Past w, w' = x.w) → wpList P l.toArray Q (l.drop n) a' w') (l.take n) a) : (Code.region id l.toArray true).wp P Q a w := by
  simp only [Region.lexTailB, Bool.and_eq_true, decide_eq_true_eq] at hB
  obtain ⟨⟨⟨⟨hns, hn⟩, hsk⟩, hch⟩, hlex⟩ := hB
  have hnl : n < l.length := by simpa using hn
  have e1 : (l.take n).length = n := by rw [List.length_take]; omega
  have e2 : (l.drop n).length = l.toArray.size - n := by simp
  have inv : HeadInv .any l.toArray n (Array.replicate l.toArray.size false) :=
    ⟨by simp, fun j q _ hl => absurd hl (by rw [getD_replicate_false]; decide), fun t _ ht => getD_in (by simpa using ht) (getD_replicate_false _ _)⟩
  have H := headQ_lex (C := fun w' => ∃ x : Past w, w' = x.w) (md := .any) (g := l.toArray.size - n) hns hsk hch hn (l.take n) 0 _ a
    (fun j hj => by rw [e1] at hj; simp [hj]) (by rw [e1, Nat.zero_add]) inv (by rw [e1]; exact hlex) h
  have K := headQ_any (Q := Q) (g := l.toArray.size - n) (fun d a' w' hw' hd => by
    have := wpAny_of_seq (md := .any) (Q' := Q) (l.drop n) n d a' w' (fun j => by simp [List.getElem?_drop]) (by rw [e2]; exact hd.1) (hd.2 w' hw')
    rwa [e2] at this) _ _ _ w.drew ⟨⟨w.drew, (Below.refl _ _).drew⟩, rfl⟩ H
  rw [e1, show l.toArray.size - n + n = l.toArray.size by omega] at K
  exact wp_region_any hm K
/-- A new block: the world behind it under a name. -/
theorem wp_alloc_out {P : Program} {c : Code} {Q : Exit → Act → World → Prop} {a : Act} {w : World} {cs : Array Value} {t : TypeId}
    (h : ∀ W, Below w.heap.size w W → W.heap.size = w.heap.size + 1 → (∀ j, W.cell? ⟨w.heap.size, j, none⟩ = cs[j]?) → (∀ j, W.frozen? ⟨w.heap.size, j, none⟩ = false) → c.wp P Q a W) :
    c.wp P Q a (w.alloc (.cells cs t)) := by
  refine h _ (Bel.alloc (Below.refl _ _) _) (by simp) (fun j => ?_) (fun j => ?_)
  · exact cell_of_row (w.alloc (.cells cs t)) w.heap.size j cs t (0, 0) (heap_alloc_new w _)
  · unfold World.frozen?
    rw [heap_alloc_new w (.cells cs t)]
    simp

/-- The slice's row in block b, from its head on, reads as the list xs; an element x takes the cells cs x, sz of them. -/
def Arr {α : Type} (cs : α → List Value) (sz : Nat) (w : World) (b : Nat) (xs : List α) : Prop :=
  b < w.heap.size ∧ ∀ (i : Nat) (h : i < xs.length) (j : Nat) (v : Value), (cs xs[i])[j]? = some v → w.cell? ⟨b, i * sz + j, none⟩ = some v
section
variable {α : Type} {cs : α → List Value} {sz : Nat} {w w' : World} {b : Nat} {xs : List α}
theorem Arr.get (A : Arr cs sz w b xs) {k : Nat} (hk : k < xs.length) (j o : Nat) {v : Value} (hv : (cs xs[k])[j]? = some v) (ho : k * sz + j = o) : w.cell? ⟨b, o, none⟩ = some v := ho ▸ A.2 k hk j v hv
theorem Arr.below (A : Arr cs sz w b xs) (h : Below w.heap.size w w') : Arr cs sz w' b xs :=
  ⟨Nat.lt_of_lt_of_le A.1 h.size, fun i hi j v hv => (h.cell (p := ⟨b, i * sz + j, none⟩) A.1).trans (A.2 i hi j v hv)⟩
theorem Arr.upto {B : Nat} (A : Arr cs sz w b xs) (hB : b < B) (h : Below B w w') : Arr cs sz w' b xs :=
  ⟨Nat.lt_of_lt_of_le A.1 h.size, fun i hi j v hv => (h.cell (p := ⟨b, i * sz + j, none⟩) hB).trans (A.2 i hi j v hv)⟩
end
/-- The row from ⟨b, o⟩ on reads as the list xs. -/
def ArgC {α : Type} (cs : α → List Value) (sz : Nat) (w : World) (b o : Nat) (xs : List α) : Prop :=
  b < w.heap.size ∧ ∀ (i : Nat) (h : i < xs.length) (j : Nat) (v : Value), (cs xs[i])[j]? = some v → w.cell? ⟨b, o + i * sz + j, none⟩ = some v
theorem ArgC.below {α : Type} {cs : α → List Value} {sz : Nat} {w w' : World} {b o B : Nat} {xs : List α} (h : ArgC cs sz w b o xs) (hb : Below B w w') (hB : b < B) : ArgC cs sz w' b o xs :=
  ⟨Nat.lt_of_lt_of_le h.1 hb.size, fun i hi j v hv => (hb.cell (p := ⟨b, o + i * sz + j, none⟩) hB).trans (h.2 i hi j v hv)⟩
/-- An argument's slice (nil let in) reads as the list xs. -/
def ArgS {α : Type} (cs : α → List Value) (sz : Nat) (w : World) (A : Option Addr) (xs : List α) : Prop := 0 < xs.length → ∃ b o, A = some ⟨b, o, none⟩ ∧ ArgC cs sz w b o xs
theorem ArgS.below {α : Type} {cs : α → List Value} {sz : Nat} {w w' : World} {A : Option Addr} {xs : List α} (h : ArgS cs sz w A xs) (hb : Below w.heap.size w w') : ArgS cs sz w' A xs := fun hn => by
  obtain ⟨b, o, e, hc⟩ := h hn
  exact ⟨b, o, e, hc.below hb hc.1⟩
/-- Block g is a row of its own of element type t that holds just the list xs. -/
def Own {α : Type} (cs : α → List Value) (sz : Nat) (t : TypeId) (w : World) (g : Nat) (xs : List α) : Prop :=
  ∃ arr : Array Value, w.heap[g]? = some (.cells arr t (0, 0)) ∧ arr.size = xs.length * sz ∧ ∀ (i : Nat) (h : i < xs.length) (j : Nat) (v : Value), (cs xs[i])[j]? = some v → arr[i * sz + j]? = some v
theorem lt_of_heap {w : World} {g : Nat} {o : Obj} (h : w.heap[g]? = some o) : g < w.heap.size := by
  rcases Nat.lt_or_ge g w.heap.size with hlt | hge
  · exact hlt
  · rw [Array.getElem?_eq_none hge] at h; cases h
theorem Own.arr {α : Type} {cs : α → List Value} {sz : Nat} {t : TypeId} {w : World} {g : Nat} {xs : List α} (h : Own cs sz t w g xs) : Arr cs sz w g xs := by
  obtain ⟨arr, hh, _, hc⟩ := h
  exact ⟨lt_of_heap hh, fun i hi j v hv => (cell_of_row w g _ arr t (0, 0) hh).trans (hc i hi j v hv)⟩
theorem Own.upto {α : Type} {cs : α → List Value} {sz : Nat} {t : TypeId} {w w' : World} {g B : Nat} {xs : List α} (h : Own cs sz t w g xs) (hb : Below B w w') (hg : g < B) : Own cs sz t w' g xs := by
  obtain ⟨arr, hh, h2, h3⟩ := h
  exact ⟨arr, (hb.block g hg).trans hh, h2, h3⟩
theorem Own.below {α : Type} {cs : α → List Value} {sz : Nat} {t : TypeId} {w w' : World} {g : Nat} {xs : List α} (h : Own cs sz t w g xs) (hb : Below w.heap.size w w') : Own cs sz t w' g xs := h.upto hb h.arr.1
theorem mk_slice {P : Program} (t e : TypeId) (z : Value) (sz by_ : Nat) (ht : P.underlying t = some (.slice e)) (hi : (P.info? e).map (fun i => (i.zero, i.size, i.bytes)) = some (some z, sz, by_))
    (hb : by_ ≤ 200) (n : Nat) (hn : n ≤ 1048576) : ∀ W : World, (Instr.makeSlice t (.int .i64 (n : Int)) (.int .i64 (n : Int))).run P W = .ok (.slice (some ⟨W.heap.size, 0, none⟩) n n) (W.alloc (.cells (madeCells z.cells (n * sz)) e)) := by
  intro W
  obtain ⟨i, h1, h2⟩ := Option.map_eq_some_iff.1 hi
  simp only [Prod.mk.injEq] at h2
  obtain ⟨h2, h3, h4⟩ := h2
  have hbn : i.bytes * n ≤ 200 * 1048576 := Nat.mul_le_mul (by omega) hn
  have hb2 : (i.bytes : Int) * (n : Int) ≤ 281474976710656 := by
    have : ((i.bytes * n : Nat) : Int) ≤ 281474976710656 := by omega
    rwa [Int.natCast_mul] at this
  have hr := run_make (P := P) (w := W) t e i z ht h1 h2 .i64 .i64 n n (by omega) (by omega) hb2 (by omega)
  simp only [Int.toNat_natCast, h3] at hr
  exact hr
theorem heap_set {w : World} {g i : Nat} {arr : Array Value} {t : TypeId} (h : w.heap[g]? = some (.cells arr t (0, 0))) (u : Value) :
    (w.setCell ⟨g, i, none⟩ u).heap[g]? = some (.cells (arr.setIfInBounds i u) t (0, 0)) := by
  simp [World.setCell, Array.getElem?_modify, h]
theorem heap_room {w : World} {g i : Nat} {arr : Array Value} {t : TypeId} (h : w.heap[g]? = some (.cells arr t (0, 0))) (hi : i < arr.size) :
    ∃ u, w.cell? ⟨g, i, none⟩ = some u ∧ w.frozen? ⟨g, i, none⟩ = false := by
  refine ⟨arr[i], ?_, by unfold World.frozen?; rw [h]; simp⟩
  rw [cell_of_row w g i arr t (0, 0) h, Array.getElem?_eq_getElem hi]
theorem lt_of_cell {w : World} {b o : Nat} {v : Value} (h : w.cell? ⟨b, o, none⟩ = some v) : b < w.heap.size := by
  rcases Nat.lt_or_ge b w.heap.size with hlt | hge
  · exact hlt
  · simp [World.cell?, Array.getElem?_eq_none hge] at h
/-- As Own, but the first k elements alone are known. -/
def Part {α : Type} (cs : α → List Value) (sz : Nat) (t : TypeId) (w : World) (g : Nat) (xs : List α) (k : Nat) : Prop :=
  ∃ arr : Array Value, w.heap[g]? = some (.cells arr t (0, 0)) ∧ arr.size = xs.length * sz ∧ ∀ (i : Nat) (h : i < xs.length), i < k → ∀ (j : Nat) (v : Value), (cs xs[i])[j]? = some v → arr[i * sz + j]? = some v
def setAll (w : World) (g : Nat) : Nat → List Value → World
  | _, [] => w
  | o, v :: r => setAll (w.setCell ⟨g, o, none⟩ v) g (o + 1) r
theorem Bel.setAll {a : World} {g : Nat} (hg : a.heap.size ≤ g) : ∀ (l : List Value) (o : Nat) {w : World}, Below a.heap.size a w → Below a.heap.size a (Go.Proofs.Ytfbnckgfgaddkaa.setAll w g o l)
  | [], _, _, h => h
  | v :: r, o, _, h => Bel.setAll hg r (o + 1) (h.setCell (p := ⟨g, o, none⟩) hg v)
section
variable {α : Type} {cs : α → List Value} {sz : Nat} {t : TypeId} {w w' : World} {g k : Nat} {xs : List α}
theorem Part.own (h : Part cs sz t w g xs k) (hk : xs.length ≤ k) : Own cs sz t w g xs := by
  obtain ⟨arr, h1, h2, h3⟩ := h
  exact ⟨arr, h1, h2, fun i hi => h3 i hi (by omega)⟩
theorem Part.lt (h : Part cs sz t w g xs k) : g < w.heap.size := by
  obtain ⟨arr, h1, _⟩ := h
  exact lt_of_heap h1
theorem Part.upto {B : Nat} (h : Part cs sz t w g xs k) (hb : Below B w w') (hg : g < B) : Part cs sz t w' g xs k := by
  obtain ⟨arr, hh, h2, h3⟩ := h
  exact ⟨arr, (hb.block g hg).trans hh, h2, h3⟩
theorem Part.room (h : Part cs sz t w g xs k) {i : Nat} (hi : i < xs.length * sz) : ∃ u, w.cell? ⟨g, i, none⟩ = some u ∧ w.frozen? ⟨g, i, none⟩ = false := by
  obtain ⟨arr, hh, h2, _⟩ := h
  exact heap_room hh (by omega)
theorem Own.room (h : Own cs sz t w g xs) {i : Nat} (hi : i < xs.length * sz) : ∃ u, w.cell? ⟨g, i, none⟩ = some u ∧ w.frozen? ⟨g, i, none⟩ = false := by
  obtain ⟨arr, hh, h2, _⟩ := h
  exact heap_room hh (by omega)
theorem Part.made (z : Array Value) (w : World) (xs : List α) : Part cs sz t (w.alloc (.cells (madeCells z (xs.length * sz)) t)) w.heap.size xs 0 :=
  ⟨_, heap_alloc_new w _, size_madeCells _ _, fun i _ h0 => absurd h0 (by omega)⟩
theorem setAll_heap : ∀ (l : List Value) (w : World) (o : Nat) (arr : Array Value), w.heap[g]? = some (.cells arr t (0, 0)) → o + l.length ≤ arr.size →
    ∃ arr', (setAll w g o l).heap[g]? = some (.cells arr' t (0, 0)) ∧ arr'.size = arr.size ∧ (∀ j v, l[j]? = some v → arr'[o + j]? = some v) ∧ ∀ i, i < o → arr'[i]? = arr[i]?
  | [], w, o, arr, h, _ => ⟨arr, h, rfl, fun j v hv => by simp at hv, fun _ _ => rfl⟩
  | v :: r, w, o, arr, h, hl => by
    simp only [List.length_cons] at hl
    obtain ⟨arr', h1, h2, h3, h4⟩ := setAll_heap r (w.setCell ⟨g, o, none⟩ v) (o + 1) (arr.setIfInBounds o v) (heap_set h v) (by simp; omega)
    refine ⟨arr', h1, by simpa using h2, fun j u hu => ?_, fun i hi => ?_⟩
    · cases j with
      | zero =>
        have e := h4 o (by omega)
        simp only [List.getElem?_cons_zero, Option.some.injEq] at hu
        subst hu
        rw [Nat.add_zero, e, Array.getElem?_setIfInBounds_self_of_lt (by omega)]
      | succ j =>
        rw [show o + (j + 1) = o + 1 + j by omega]
        exact h3 j u (by simpa using hu)
    · rw [h4 i (by omega), Array.getElem?_setIfInBounds_ne (by omega)]
theorem Part.step (h : Part cs sz t w g xs k) (hk : k < xs.length) (hsz : ∀ x, (cs x).length = sz) : Part cs sz t (setAll w g (k * sz) (cs xs[k])) g xs (k + 1) := by
  obtain ⟨arr, h1, h2, h3⟩ := h
  have hle : k * sz + sz ≤ xs.length * sz := by
    have := Nat.mul_le_mul_right sz (show k + 1 ≤ xs.length by omega)
    rw [Nat.succ_mul] at this; exact this
  obtain ⟨arr', a1, a2, a3, a4⟩ := setAll_heap (cs xs[k]) w (k * sz) arr h1 (by rw [hsz]; omega)
  refine ⟨arr', a1, by omega, fun i hi hik j v hv => ?_⟩
  by_cases e : i = k
  · subst e; exact a3 j v hv
  · have hj : j < (cs xs[i]).length := (List.getElem?_eq_some_iff.1 hv).1
    have h0 := h3 i hi (by omega) j v hv
    rw [← h0]
    refine a4 _ ?_
    have hlt : i * sz + j < arr.size := (Array.getElem?_eq_some_iff.1 h0).1
    have h5 : i * sz + sz ≤ k * sz := by
      have := Nat.mul_le_mul_right sz (show i + 1 ≤ k by omega)
      rw [Nat.succ_mul] at this; exact this
    rw [hsz] at hj
    omega
end
def intc (n : Int) : List Value := [.int .i64 n]

theorem all_range_snoc {p : Nat → Bool} {k : Nat} (h : (List.range k).all p = true) (hk : p k = true) : (List.range (k+1)).all p = true := by
  rw [List.range_succ, List.all_append, h]; simpa using hk
theorem all_range_no {p : Nat → Bool} {n k : Nat} (hk : k < n) (h : p k = false) : (List.range n).all p = false := by
  rw [List.all_eq_false]; exact ⟨k, by simpa using hk, by simp [h]⟩
theorem size_list (s : ByteArray) : s.toList.length = s.size := by
  rw [ByteArray.toList_eq]; rfl
theorem str_ne {s : ByteArray} (h : 0 < s.size) : s.toList.isEmpty = false := by
  rw [List.isEmpty_eq_false_iff, ← List.length_pos_iff, size_list]; exact h
theorem str_eq {s : ByteArray} (h : s.size = 0) : s.toList.isEmpty = true := by
  rw [List.isEmpty_iff, ← List.length_eq_zero_iff, size_list]; exact h
/-- a ≤ b, as texts -/
def strLe (a b : ByteArray) : Bool := Op.bytesLess a.toList b.toList || a.toList == b.toList
theorem bytes_tri : ∀ x y : List UInt8, (Op.bytesLess x y || x == y) = !(Op.bytesLess y x)
  | [], [] => by simp [Op.bytesLess]
  | [], _ :: _ => by simp [Op.bytesLess]
  | _ :: _, [] => by simp [Op.bytesLess]
  | a :: x, b :: y => by
    have ih := bytes_tri x y
    simp only [Op.bytesLess]
    rcases Decidable.em (a = b) with e | e
    · subst e
      have h1 : ¬ a < a := UInt8.lt_irrefl a
      simp [h1] at ih ⊢
      exact ih
    · have e1 : (a == b) = false := by simpa using e
      have e2 : (b == a) = false := by simpa using fun h => e h.symm
      have e3 : (a :: x == b :: y) = false := by simp [e]
      rw [e1, e2, e3]
      simp only [Bool.false_and, Bool.or_false]
      rcases UInt8.lt_or_lt_of_ne e with h | h
      · have h' : ¬ b < a := fun hh => UInt8.lt_irrefl a (UInt8.lt_trans h hh)
        simp [h, h']
      · have h' : ¬ a < b := fun hh => UInt8.lt_irrefl b (UInt8.lt_trans h hh)
        simp [h, h']
theorem strLe_no {a b : ByteArray} (h : strLe a b = false) : Op.bytesLess a.toList b.toList = false ∧ (a.toList == b.toList) = false ∧ Op.bytesLess b.toList a.toList = true := by
  have t := bytes_tri a.toList b.toList
  have h' := h
  unfold strLe at h h'
  rw [t] at h'
  rw [Bool.or_eq_false_iff] at h
  exact ⟨h.1, h.2, by simpa using h'⟩
theorem strLe_yes {a b : ByteArray} (h : strLe a b = true) : (Op.bytesLess a.toList b.toList || a.toList == b.toList) = true ∧ Op.bytesLess b.toList a.toList = false := by
  have t := bytes_tri a.toList b.toList
  have h' := h
  unfold strLe at h h'
  rw [t] at h'
  exact ⟨h, by simpa using h'⟩
/-- The first number below n with a property. -/
def fst (p : Nat → Bool) (n : Nat) : Option Nat := (List.range n).find? p
theorem fst_none {p : Nat → Bool} {n : Nat} (h : ∀ j, j < n → p j = false) : fst p n = none := by
  unfold fst
  rw [List.find?_eq_none]
  intro x hx
  rw [h x (List.mem_range.1 hx)]
  exact Bool.false_ne_true
theorem fst_some {p : Nat → Bool} {n k : Nat} (hk : k < n) (h : ∀ j, j < k → p j = false) (hp : p k = true) : fst p n = some k := by
  unfold fst
  induction n with
  | zero => omega
  | succ n ih =>
    rw [List.range_succ, List.find?_append]
    rcases Nat.lt_or_ge k n with h1 | h1
    · rw [ih h1]; rfl
    · obtain rfl : k = n := by omega
      rw [show List.find? p (List.range k) = none from fst_none h]
      simp [hp]
theorem upto_snoc {p : Nat → Bool} {k : Nat} (h : ∀ j, j < k → p j = false) (hk : p k = false) : ∀ j, j < k + 1 → p j = false := fun j hj => by
  rcases Nat.lt_or_ge j k with h1 | h1
  · exact h j h1
  · rw [show j = k by omega]; exact hk
/-- Block g is just the cells cs of type t (a variable of the call's own). -/
def Box (t : TypeId) (w : World) (g : Nat) (cs : Array Value) : Prop := w.heap[g]? = some (.cells cs t (0, 0))
section
variable {t : TypeId} {w w' : World} {g : Nat} {cs : Array Value}
theorem Box.lt (h : Box t w g cs) : g < w.heap.size := lt_of_heap h
theorem Box.new (w : World) (t : TypeId) (cs : Array Value) : Box t (w.alloc (.cells cs t)) w.heap.size cs := heap_alloc_new w _
theorem Box.alloc (h : Box t w g cs) (o : Obj) : Box t (w.alloc o) g cs := (Below.heap_alloc w o g h.lt).trans h
theorem Box.upto {B : Nat} (h : Box t w g cs) (hb : Below B w w') (hg : g < B) : Box t w' g cs := (hb.block g hg).trans h
theorem Box.below (h : Box t w g cs) (hb : Below w.heap.size w w') : Box t w' g cs := h.upto hb h.lt
theorem Box.cell (h : Box t w g cs) (j : Nat) : w.cell? ⟨g, j, none⟩ = cs[j]? := cell_of_row w g j cs t (0, 0) h
theorem Box.free (h : Box t w g cs) (j : Nat) : w.frozen? ⟨g, j, none⟩ = false := by unfold World.frozen?; rw [show w.heap[g]? = _ from h]; simp
theorem Box.set (h : Box t w g cs) (i : Nat) (u : Value) : Box t (w.setCell ⟨g, i, none⟩ u) g (cs.setIfInBounds i u) := heap_set h u
theorem Box.far (h : Box t w g cs) {p : Addr} (hp : g ≠ p.block) (u : Value) : Box t (w.setCell p u) g cs := (Below.heap_setCell w p u g hp).trans h
theorem Box.setAll (h : Box t w g cs) (l : List Value) (hl : l.length = cs.size) : Box t (Go.Proofs.Ytfbnckgfgaddkaa.setAll w g 0 l) g l.toArray := by
  obtain ⟨arr', h1, h2, h3, _⟩ := setAll_heap l w 0 cs h (by omega)
  have e : arr' = l.toArray := by
    apply Array.ext_getElem?
    intro i
    rcases Nat.lt_or_ge i l.length with hi | hi
    · have := h3 i _ (List.getElem?_eq_getElem hi)
      rw [Nat.zero_add] at this
      rw [this]; simp [hi]
    · rw [Array.getElem?_eq_none (by omega), Array.getElem?_eq_none (by simpa using hi)]
  exact e ▸ h1
end
theorem wp_box_out {P : Program} {c : Code} {Q : Exit → Act → World → Prop} {a : Act} {w : World} {c1 : Array Value} {t1 : TypeId}
    (h : ∀ W, Below w.heap.size w W → Box t1 W w.heap.size c1 → c.wp P Q a W) : c.wp P Q a (w.alloc (.cells c1 t1)) :=
  h _ (Bel.alloc (Below.refl _ _) _) (Box.new _ _ _)
theorem wp_box_out2 {P : Program} {c : Code} {Q : Exit → Act → World → Prop} {a : Act} {w : World} {c1 c2 : Array Value} {t1 t2 : TypeId}
    (h : ∀ W, Below w.heap.size w W → Box t1 W w.heap.size c1 → Box t2 W (w.heap.size + 1) c2 → c.wp P Q a W) : c.wp P Q a ((w.alloc (.cells c1 t1)).alloc (.cells c2 t2)) := by
  refine h _ (Bel.alloc (Bel.alloc (Below.refl _ _) _) _) ((Box.new _ _ _).alloc _) ?_
  have := Box.new (w.alloc (.cells c1 t1)) t2 c2
  rwa [show (w.alloc (.cells c1 t1)).heap.size = w.heap.size + 1 by simp] at this
theorem wp_box_out3 {P : Program} {c : Code} {Q : Exit → Act → World → Prop} {a : Act} {w : World} {c1 c2 c3 : Array Value} {t1 t2 t3 : TypeId}
    (h : ∀ W, Below w.heap.size w W → Box t1 W w.heap.size c1 → Box t2 W (w.heap.size + 1) c2 → Box t3 W (w.heap.size + 2) c3 → c.wp P Q a W) : c.wp P Q a (((w.alloc (.cells c1 t1)).alloc (.cells c2 t2)).alloc (.cells c3 t3)) := by
  have e1 : (w.alloc (.cells c1 t1)).heap.size = w.heap.size + 1 := by simp
  have e2 : ((w.alloc (.cells c1 t1)).alloc (.cells c2 t2)).heap.size = w.heap.size + 2 := by simp
  have b2 := Box.new (w.alloc (.cells c1 t1)) t2 c2
  have b3 := Box.new ((w.alloc (.cells c1 t1)).alloc (.cells c2 t2)) t3 c3
  rw [e1] at b2
  rw [e2] at b3
  exact h _ (Bel.alloc (Bel.alloc (Bel.alloc (Below.refl _ _) _) _) _) (((Box.new _ _ _).alloc _).alloc _) (b2.alloc _) b3
theorem calls_box_out {P : Program} {f : FuncId} {args : Array Value} {R : Ending → World → Prop} {w : World} {c1 : Array Value} {t1 : TypeId}
    (h : ∀ W, Below w.heap.size w W → Box t1 W w.heap.size c1 → Calls P f args W R) : Calls P f args (w.alloc (.cells c1 t1)) R :=
  h _ (Bel.alloc (Below.refl _ _) _) (Box.new _ _ _)
theorem calls_box_out2 {P : Program} {f : FuncId} {args : Array Value} {R : Ending → World → Prop} {w : World} {c1 c2 : Array Value} {t1 t2 : TypeId}
    (h : ∀ W, Below w.heap.size w W → Box t1 W w.heap.size c1 → Box t2 W (w.heap.size + 1) c2 → Calls P f args W R) : Calls P f args ((w.alloc (.cells c1 t1)).alloc (.cells c2 t2)) R := by
  refine h _ (Bel.alloc (Bel.alloc (Below.refl _ _) _) _) ((Box.new _ _ _).alloc _) ?_
  have := Box.new (w.alloc (.cells c1 t1)) t2 c2
  rwa [show (w.alloc (.cells c1 t1)).heap.size = w.heap.size + 1 by simp] at this
theorem calls_box_out3 {P : Program} {f : FuncId} {args : Array Value} {R : Ending → World → Prop} {w : World} {c1 c2 c3 : Array Value} {t1 t2 t3 : TypeId}
    (h : ∀ W, Below w.heap.size w W → Box t1 W w.heap.size c1 → Box t2 W (w.heap.size + 1) c2 → Box t3 W (w.heap.size + 2) c3 → Calls P f args W R) : Calls P f args (((w.alloc (.cells c1 t1)).alloc (.cells c2 t2)).alloc (.cells c3 t3)) R := by
  have e1 : (w.alloc (.cells c1 t1)).heap.size = w.heap.size + 1 := by simp
  have e2 : ((w.alloc (.cells c1 t1)).alloc (.cells c2 t2)).heap.size = w.heap.size + 2 := by simp
  have b2 := Box.new (w.alloc (.cells c1 t1)) t2 c2
  have b3 := Box.new ((w.alloc (.cells c1 t1)).alloc (.cells c2 t2)) t3 c3
  rw [e1] at b2
  rw [e2] at b3
  exact h _ (Bel.alloc (Bel.alloc (Bel.alloc (Below.refl _ _) _) _) _) (((Box.new _ _ _).alloc _).alloc _) (b2.alloc _) b3
theorem Past.drew {P : Program} {f : FuncId} {args : Array Value} {v : Value} {W : World} (x : Past W) (h : Calls P f args x.w fun e w' => e = .returned v ∧ ∃ n, x.w.drewN n = w') :
    Calls P f args x.w fun e w'' => e = .returned v ∧ ∃ y : Past W, w'' = y.w :=
  h.mono fun _ _ ⟨he, n, hb⟩ => ⟨he, ⟨_, Bel.drewN x.h n⟩, hb.symm⟩
theorem Past.box {W : World} {t : TypeId} {g : Nat} {cs : Array Value} (h : Box t W g cs) {j : Nat} {v : Value} (hv : cs[j]? = some v) : ∀ x : Past W, x.w.cell? ⟨g, j, none⟩ = some v :=
  Past.cell ((h.cell j).trans hv) h.lt
/-- How many numbers below n have a property. -/
def cntR (p : Nat → Bool) (n : Nat) : Nat := ((List.range n).filter p).length
theorem cntR_0 (p : Nat → Bool) : cntR p 0 = 0 := rfl
theorem cntR_yes {p : Nat → Bool} {n : Nat} (h : p n = true) : cntR p (n + 1) = cntR p n + 1 := by simp [cntR, List.range_succ, List.filter_append, h]
theorem cntR_no {p : Nat → Bool} {n : Nat} (h : p n = false) : cntR p (n + 1) = cntR p n := by simp [cntR, List.range_succ, List.filter_append, h]
theorem cntR_le (p : Nat → Bool) (n : Nat) : cntR p n ≤ n := by
  have := List.length_filter_le p (List.range n)
  simpa [cntR] using this
/-- The sum of f below n. -/
def sumR (f : Nat → Int) : Nat → Int
  | 0 => 0
  | n + 1 => sumR f n + f n
theorem sumR_bd {f : Nat → Int} {k : Nat} {M : Int} (h : ∀ i, i < k → 0 ≤ f i ∧ f i ≤ M) : 0 ≤ sumR f k ∧ sumR f k ≤ M * k := by
  induction k with
  | zero => simp [sumR]
  | succ k ih =>
    have h1 := ih fun i hi => h i (by omega)
    have h2 := h k (by omega)
    have e : M * ((k + 1 : Nat) : Int) = M * (k : Int) + M := by rw [Int.natCast_succ, Int.mul_add, Int.mul_one]
    simp only [sumR]
    omega
theorem and_false_left {a b : Bool} (h : a = false) : (a && b) = false := by rw [h, Bool.false_and]
theorem ret_int2 {k k' : IntKind} {a b a' b' : Int} (h : a = b) (h' : a' = b') : Ending.returned (.tuple #[.int k a, .int k' a']) = .returned (.tuple #[.int k b, .int k' b']) := by rw [h, h']
theorem ret_int3 {k k' k2 : IntKind} {a b a' b' a2 b2 : Int} (h : a = b) (h' : a' = b') (h2 : a2 = b2) : Ending.returned (.tuple #[.int k a, .int k' a', .int k2 a2]) = .returned (.tuple #[.int k b, .int k' b', .int k2 b2]) := by rw [h, h', h2]
theorem ret_int {k : IntKind} {a b : Int} (h : a = b) : Ending.returned (.int k a) = .returned (.int k b) := by rw [h]
theorem ret_bool {a b : Bool} (h : a = b) : Ending.returned (.bool a) = .returned (.bool b) := by rw [h]
/-- low ≤ n ≤ high -/
def inr (lo hi n : Int) : Bool := decide (lo ≤ n) && decide (n ≤ hi)
/-- The nearest quotient by a positive number, halves away from 0. -/
def rdiv (a b : Int) : Int := if a < 0 then -((b - 2 * a) / (2 * b)) else (2 * a + b) / (2 * b)
theorem tdiv_bd (a b : Int) (hb : 0 < b) (h1 : -1000000000000000 ≤ a) (h2 : a ≤ 1000000000000000) : -1000000000000000 ≤ a.tdiv b ∧ a.tdiv b ≤ 1000000000000000 := by
  rcases Int.lt_or_le a 0 with h | h
  · have e : a.tdiv b = -((-a) / b) := by
      rw [← Int.neg_neg a, Int.neg_tdiv, Int.tdiv_eq_ediv_of_nonneg (by omega), Int.neg_neg]
    have h3 : 0 ≤ (-a) / b := Int.ediv_nonneg (by omega) (by omega)
    have h4 : (-a) / b ≤ -a := Int.ediv_le_self _ (by omega)
    omega
  · rw [Int.tdiv_eq_ediv_of_nonneg h]
    have h3 : 0 ≤ a / b := Int.ediv_nonneg h (by omega)
    have h4 : a / b ≤ a := Int.ediv_le_self _ h
    omega
theorem tmod_bd (a b : Int) (hb : 0 < b) : -b < a.tmod b ∧ a.tmod b < b := ⟨by have := Int.lt_tmod_of_pos a hb; omega, Int.tmod_lt_of_pos a hb⟩
theorem half_up (a b : Int) (hb : 0 < b) (h : b ≤ 2 * (a % b)) : (2 * a + b) / (2 * b) = a / b + 1 := by
  have e := Int.mul_ediv_add_emod a b
  have m := Int.emod_lt_of_pos a hb
  have : 2 * a + b = (2 * (a % b) - b) + (2 * b) * (a / b + 1) := by
    have e2 : (2 * b) * (a / b + 1) = 2 * (b * (a / b)) + 2 * b := by rw [Int.mul_add, Int.mul_assoc]; omega
    omega
  rw [this, Int.add_mul_ediv_left _ _ (by omega), Int.ediv_eq_zero_of_lt (by omega) (by omega)]; omega
theorem half_down (a b : Int) (hb : 0 < b) (h : 2 * (a % b) < b) : (2 * a + b) / (2 * b) = a / b := by
  have e := Int.mul_ediv_add_emod a b
  have m := Int.emod_nonneg a (show b ≠ 0 by omega)
  have : 2 * a + b = (2 * (a % b) + b) + (2 * b) * (a / b) := by
    have e2 : (2 * b) * (a / b) = 2 * (b * (a / b)) := by rw [Int.mul_assoc]
    omega
  rw [this, Int.add_mul_ediv_left _ _ (by omega), Int.ediv_eq_zero_of_lt (by omega) (by omega)]; omega
theorem tdiv_neg_eq (a b : Int) (h : a < 0) : a.tdiv b = -((-a) / b) := by
  have := Int.neg_tdiv (-a) b
  rw [Int.neg_neg, Int.tdiv_eq_ediv_of_nonneg (a := -a) (by omega)] at this; exact this
theorem tmod_neg_eq (a b : Int) (h : a < 0) : a.tmod b = -((-a) % b) := by
  have := Int.neg_tmod (-a) b
  rw [Int.neg_neg, Int.tmod_eq_emod_of_nonneg (a := -a) (by omega)] at this; exact this
theorem rdiv_up_pos (a b : Int) (hb : 0 < b) (ha : 0 ≤ a) (h : b - max (a.tmod b) (-(a.tmod b)) ≤ max (a.tmod b) (-(a.tmod b))) : rdiv a b = a.tdiv b + 1 := by
  rw [Int.tmod_eq_emod_of_nonneg ha] at h
  have m := Int.emod_nonneg a (show b ≠ 0 by omega)
  rw [rdiv, if_neg (by omega), Int.tdiv_eq_ediv_of_nonneg ha]
  exact half_up a b hb (by omega)
theorem rdiv_up_neg (a b : Int) (hb : 0 < b) (ha : a < 0) (h : b - max (a.tmod b) (-(a.tmod b)) ≤ max (a.tmod b) (-(a.tmod b))) : rdiv a b = a.tdiv b - 1 := by
  rw [tmod_neg_eq a b ha] at h
  have m := Int.emod_nonneg (-a) (show b ≠ 0 by omega)
  rw [rdiv, if_pos ha, tdiv_neg_eq a b ha]
  have := half_up (-a) b hb (by omega)
  rw [show b - 2 * a = 2 * -a + b by omega, this]; omega
theorem rdiv_down (a b : Int) (hb : 0 < b) (h : max (a.tmod b) (-(a.tmod b)) < b - max (a.tmod b) (-(a.tmod b))) : rdiv a b = a.tdiv b := by
  rcases Int.lt_or_le a 0 with ha | ha
  · rw [tmod_neg_eq a b ha] at h
    have m := Int.emod_nonneg (-a) (show b ≠ 0 by omega)
    have := half_down (-a) b hb (by omega)
    rw [rdiv, if_pos ha, tdiv_neg_eq a b ha, show b - 2 * a = 2 * -a + b by omega, this]
  · rw [Int.tmod_eq_emod_of_nonneg ha] at h
    have m := Int.emod_nonneg a (show b ≠ 0 by omega)
    rw [rdiv, if_neg (by omega), Int.tdiv_eq_ediv_of_nonneg ha]
    exact half_down a b hb (by omega)
theorem rd_1 {a b : Int} (hb : 0 < b) (h : max b (-b) - max (a.tmod b) (-a.tmod b) ≤ max (a.tmod b) (-a.tmod b)) (h' : (decide (a < 0) == decide (b < 0)) = true) : a.tdiv b + 1 = rdiv a b := by
  rw [decide_eq_false (show ¬ b < 0 by omega)] at h'
  exact (rdiv_up_pos a b hb (by simpa using h') (by omega)).symm
theorem rd_2 {a b : Int} (hb : 0 < b) (h : max b (-b) - max (a.tmod b) (-a.tmod b) ≤ max (a.tmod b) (-a.tmod b)) (h' : (decide (a < 0) == decide (b < 0)) = false) : a.tdiv b - 1 = rdiv a b := by
  rw [decide_eq_false (show ¬ b < 0 by omega)] at h'
  exact (rdiv_up_neg a b hb (by simpa using h') (by omega)).symm
theorem rd_3 {a b : Int} (hb : 0 < b) (h : max (a.tmod b) (-a.tmod b) < max b (-b) - max (a.tmod b) (-a.tmod b)) : a.tdiv b = rdiv a b := (rdiv_down a b hb (by omega)).symm
theorem rdiv_bd (a b : Int) (hb : 0 < b) (h1 : -1000000000000000 ≤ a) (h2 : a ≤ 1000000000000000) : -1000000000000001 ≤ rdiv a b ∧ rdiv a b ≤ 1000000000000001 := by
  have t := tdiv_bd a b hb h1 h2
  rcases Int.lt_or_le (max (a.tmod b) (-(a.tmod b))) (b - max (a.tmod b) (-(a.tmod b))) with h | h
  · rw [rdiv_down a b hb h]; omega
  · rcases Int.lt_or_le a 0 with ha | ha
    · rw [rdiv_up_neg a b hb ha h]; omega
    · rw [rdiv_up_pos a b hb ha h]; omega
end Go.Proofs.Ytfbnckgfgaddkaa
