/- Chapter 22: works of plans: the walks. -/
import Derived.Test.YtocipeididkllaaL22p
namespace Go.Proofs.Ytocipeididkllaa
set_option linter.unusedSimpArgs false
set_option linter.unusedVariables false
open Go.RowKit
set_option maxHeartbeats 400000
set_option maxRecDepth 100000
def workc (p : Int × Int) : List Value := [.int .i64 p.1, .int .i64 p.2]
/-- append(v, work). -/
theorem wpList_pushW {P : Program} {ops : Array Oper} {rest : List Oper} {o : Oper} {a : Act} {Q : Exit → Act → World → Prop} {w : World} (hgd : o.guard = none) (s x : Operand) (t : TypeId)
    (ho : o.op = .call { callee := .builtin .append, args := #[s, x], argTypes := #[t, t] }) (base : Nat) (e : TypeId) (ht : P.underlying t = some (.slice e))
    (hi : (P.info? e).map (fun i => (i.zero, i.size, i.bytes)) = some (some (.agg #[.int .i64 0, .int .i64 0]), 2, 16))
    (v : Value) (ys : List (Int × Int)) (y1 y2 : Int) (hs : a.eval s = v) (R : Row workc 2 e w base v ys) (c : Nat) (hx : a.eval x = .slice (some ⟨w.heap.size, 0, none⟩) 1 c) (hn : ys.length ≤ 1048577) (hbase : base ≤ w.heap.size)
    (h : ∀ v' w', Row workc 2 e w' base v' (ys ++ [(y1, y2)]) → Below base w w' → wpList P ops Q rest (a.put o.dst v') w') :
    wpList P ops Q (o :: rest) a (w.alloc (.cells #[.int .i64 y1, .int .i64 y2] e)) := by
  refine wpList_push hgd s x t ho base e (.agg #[.int .i64 0, .int .i64 0]) 2 16 ht hi rfl (by decide) (by decide) workc v ys (y1, y2) hs (R.alloc _) w.heap.size c hx rfl (fun j u hu => ?_) (fun u hu => ?_) hn (by simp; omega) fun v' w' hr hg hb => h v' w' hr ?_
  · rw [(Box.new w e #[.int .i64 y1, .int .i64 y2]).cell j]; simpa [workc] using hu
  · simp only [workc, List.mem_cons, List.not_mem_nil, or_false] at hu
    rcases hu with rfl | rfl <;> rfl
  · exact ((Below.refl base w).alloc hbase _).trans hb
theorem Bel.far {B : Nat} {a w : World} (h : Below B a w) {p : Addr} (hp : B ≤ p.block) (u : Value) : Below B a (w.setCell p u) := h.setCell hp u
theorem minI_any (L : List Int) (b c n : Nat) (w : World) (A : Arr intc 1 w b L) (hL : L.length = n) (hn : n ≤ 1048576) (h0 : 0 < n) (m : Nat) (hm : argm L L.length = m) (hml : m < L.length) :
    Calls Try.prog 73 #[.slice (some ⟨b, 0, none⟩) n c] w fun e w' => e = .returned (.int .i64 L[m]) ∧ w = w' := by
  subst hL
  have HA := Lib.hid A
  have HM := Lib.hid hm
  have c00 := HA.out.get h0 0 0 rfl (by omega)
  have hlt1 : ¬ (L.length : Int) < 1 := by omega
  clear A hm
  go_enter Try.func73, Try.ntmps73
  go_wp2_with fail
  go_loop [3, 4] (fun v i => ∃ (k mm : Nat), 1 ≤ k ∧ k ≤ L.length ∧ i = .int .i64 k ∧ argm L k = mm ∧ ∃ h : mm < L.length, v = .int .i64 L[mm]) (fun _ i => L.length - (intOf i).toNat)
  case atStart => exact ⟨1, 0, by omega, by omega, rfl, argm_1 h0, h0, rfl⟩
  case round =>
    obtain ⟨k, mm, hk1, hk, rfl, hmm, hml2, rfl⟩ := hrel
    clear c00
    by_cases hlt : k < L.length
    · have c0 := HA.out.get hlt 0 k rfl (by omega)
      by_cases hq : L[k] < L[mm]
      · have HN := Lib.hid (argm_yes hlt hmm hml2 hq)
        clear hmm
        go_wp2
        all_goals
          go_round
          case rel => exact ⟨k + 1, k, by omega, by omega, by go_num, HN.out, hlt, by first | rfl | (congr 1; omega)⟩
          case measure => simp [intOf]; omega
      · have HN := Lib.hid (argm_no hlt hmm hml2 hq)
        clear hmm
        go_wp2
        all_goals
          go_round
          case rel => exact ⟨k + 1, mm, by omega, by omega, by go_num, HN.out, hml2, by first | rfl | (congr 1; omega)⟩
          case measure => simp [intOf]; omega
    · obtain rfl : k = L.length := by omega
      have HMM := Lib.hid (hmm.symm.trans HM.out)
      clear hmm
      go_wp2
      go_ret
      have e1 := HMM.out
      subst e1
      exact ⟨rfl, rfl⟩
end Go.Proofs.Ytocipeididkllaa
