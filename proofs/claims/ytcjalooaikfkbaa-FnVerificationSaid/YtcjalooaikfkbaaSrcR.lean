/- Rows that a drawing function makes beside its source of choices. No program in sight but the source's type. -/
import Derived.Test.YtcjalooaikfkbaaSrc
namespace Go.Proofs.Ytcjalooaikfkbaa
set_option linter.unusedSimpArgs false
set_option linter.unusedVariables false
open Go.RowKit
set_option maxHeartbeats 400000
theorem Src.upto {w w' : World} {base g m B : Nat} (S : Src w base g m) (hb : Below B w w') (hg : g < B) (hB : base ≤ B) : Src w' base g m := by
  obtain ⟨h1, A, n, c, k, sd, X, h2, h3, h4, h4', h5, h6, h7⟩ := S
  refine ⟨h1, A, n, c, k, sd, (hb.block g hg).trans X, h2, h3, h4, h4', h5, h6, fun i hi => ?_⟩
  obtain ⟨b, o, v, e, k1, k2, k3, k4⟩ := h7 i hi
  exact ⟨b, o, v, e, k1, Nat.lt_of_lt_of_le k2 hb.size, (hb.cell (p := ⟨b, o + i, none⟩) (Nat.lt_of_lt_of_le k1 hB)).trans k3, k4⟩
theorem Grown.upto {w wr w' : World} {row : Option Nat} (h : w.grownBy wr row) (hb : Below w.heap.size wr w') : w.grownBy w' row :=
  ⟨hb.os.trans h.os, hb.tape.trans h.tape, hb.output.trans h.output, Nat.le_trans h.size hb.size, fun k hk hne => (hb.block k hk).trans (h.block k hk hne)⟩
section
variable {α : Type} {cs : α → List Value} {sz : Nat} {t : TypeId} {w w' : World} {base : Nat} {v : Value} {ys : List α}
theorem Row.ofBox {g : Nat} (B : Box t w g #[]) (h : base ≤ g) : Row cs sz t w base (.slice (some ⟨g, 0, none⟩) 0 0) ([] : List α) :=
  ⟨by simp, Or.inr ⟨g, 0, #[], rfl, h, B, Nat.le_refl _, Nat.zero_le _, by simp, by simp⟩⟩
theorem Row.own_some (R : Row cs sz t w base v ys) (h : 0 < ys.length) : v.ownBlock ≠ none := by
  rcases R.2 with ⟨_, h4⟩ | ⟨g, cap, cur, h3, _⟩
  · omega
  · rw [h3]; simp [Value.ownBlock]
theorem Row.arr (R : Row cs sz t w base v ys) (hn : v.ownBlock ≠ none) (hsz : ∀ x, (cs x).length = sz) : ∃ b c, v = .slice (some ⟨b, 0, none⟩) ys.length c ∧ base ≤ b ∧ Arr cs sz w b ys := by
  obtain ⟨h1, h2⟩ := R
  rcases h2 with ⟨h3, h4⟩ | ⟨g, cap, cur, h3, h3', h5, h6, _, h8, h9⟩
  · rw [h3] at hn; exact absurd rfl hn
  · refine ⟨g, cap, h3, h3', lt_of_heap h5, fun i hi j u hu => ?_⟩
    rw [cell_of_row w g _ cur t (0, 0) h5]
    have hf := flat_at hsz ys i hi j u hu
    rw [← h9, List.getElem?_take] at hf
    split at hf
    · simpa using hf
    · cases hf
theorem Row.arrC (R : Row cs sz t w base v ys) (hn : v.ownBlock ≠ none) (hsz : ∀ x, (cs x).length = sz) : ∃ b c, v = .slice (some ⟨b, 0, none⟩) ys.length c ∧ base ≤ b ∧ ys.length ≤ c ∧ Arr cs sz w b ys := by
  obtain ⟨b, c, e, h1, h2⟩ := R.arr hn hsz
  obtain ⟨_, R2⟩ := R
  rcases R2 with ⟨h3, h4⟩ | ⟨g, cap, cur, h3, h3', h5, h6, _⟩
  · rw [h3] at hn; exact absurd rfl hn
  · rw [e] at h3
    injection h3 with _ _ h3
    exact ⟨b, c, e, h1, by omega, h2⟩
theorem Row.grownBelow (R : Row cs sz t w base v ys) {g : Nat} (hg : w.grownBy w' (some g)) (h : g < base) : Row cs sz t w' base v ys :=
  R.of_same fun g' hg' => hg.block g' (R.own_lt hg') (fun e => by injection e with e; have := R.own_ge hg'; omega)
end
def Bytes9 (w : World) (base : Nat) (A : Option Addr) (n : Nat) : Prop := ∀ i, i < n → ∃ b o v, A = some (⟨b, o, none⟩ : Addr) ∧ b < base ∧ w.cell? ⟨b, o + i, none⟩ = some (.int .u8 v) ∧ 0 ≤ v ∧ v ≤ 255
theorem Bytes9.below {w w' : World} {base : Nat} {A : Option Addr} {n : Nat} (h : Bytes9 w base A n) (hb : Below w.heap.size w w') (hB : base ≤ w.heap.size) : Bytes9 w' base A n := fun i hi => by
  obtain ⟨b, o, v, e, h1, h2, h3⟩ := h i hi
  exact ⟨b, o, v, e, h1, (hb.cell (p := ⟨b, o + i, none⟩) (Nat.lt_of_lt_of_le h1 hB)).trans h2, h3⟩
theorem Bytes9.to {w w' : World} {A : Option Addr} {n : Nat} (h : Bytes9 w w.heap.size A n) (hb : Below w.heap.size w w') : Bytes9 w' w'.heap.size A n := fun i hi => by
  obtain ⟨b, o, v, e, h1, h2, h3⟩ := h i hi
  exact ⟨b, o, v, e, Nat.lt_of_lt_of_le h1 hb.size, (hb.cell (p := ⟨b, o + i, none⟩) h1).trans h2, h3⟩
theorem fromS_any {w : World} {base : Nat} (A : Option Addr) (n c : Nat) (hb : base ≤ w.heap.size) (hn : n ≤ 1048576) (hnc : n ≤ c) (hc : c ≤ 9223372036854775807)
    (hrow : ∀ i, i < n → ∃ b o v, A = some (⟨b, o, none⟩ : Addr) ∧ b < base ∧ w.cell? ⟨b, o + i, none⟩ = some (.int .u8 v) ∧ 0 ≤ v ∧ v ≤ 255) :
    Calls Try.prog 36 #[.slice A n c] w fun e w' => e = .returned (.pointer (some ⟨w.heap.size, 0, none⟩)) ∧ Src w' base w.heap.size 0 ∧ Below w.heap.size w w' := by
  go_enter Try.func36, Try.ntmps36
  go_wp2
  go_ret
  refine ⟨rfl, ⟨hb, A, n, c, 0, 0, Box.new _ _ _, by omega, hn, hnc, hc, by omega, by omega, fun i hi => ?_⟩, (by repeat (first | (with_reducible assumption) | (with_reducible exact Below.refl _ _) | (with_reducible refine Bel.alloc ?_ _) | (with_reducible refine Below.drew ?_) | (with_reducible refine Bel.drewN ?_ _) | (with_reducible refine Bel.setCell ?_ (by (try simp) <;> omega) _) | (with_reducible refine Bel.trans ?_ (by assumption))))⟩
  obtain ⟨b, o, v, e, h1, h2, h3, h4⟩ := hrow i hi
  have hb1 := Bel.alloc (Below.refl w.heap.size w) (.cells #[.slice A n c, .int .i64 0, .int .u64 0] 99)
  exact ⟨b, o, v, e, h1, Nat.lt_of_lt_of_le (by omega) hb1.size, (hb1.cell (p := ⟨b, o + i, none⟩) (Nat.lt_of_lt_of_le h1 hb)).trans h2, h3, h4⟩
end Go.Proofs.Ytcjalooaikfkbaa
