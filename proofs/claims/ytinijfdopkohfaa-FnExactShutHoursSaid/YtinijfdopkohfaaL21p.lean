/- Chapter 21: gates; plain part. -/
import Derived.Test.YtinijfdopkohfaaTypes
import Derived.Test.YtinijfdopkohfaaLst
import Derived.Test.YtinijfdopkohfaaNam
import Derived.Test.YtinijfdopkohfaaAllW
namespace Go.Proofs.Ytinijfdopkohfaa
set_option linter.unusedSimpArgs false
set_option linter.unusedVariables false
open Go.RowKit
set_option maxHeartbeats 400000
def okGate (x : SGate) : Bool := isName x.Id && inr 1 1000 x.Shut && inr 0 x.Shut x.Open && inr 1 48 x.Hold && inr 0 (x.Hold - 1) x.Calm && (x.Shuts || decide (x.Calm = 0))
/-- what a step keeps -/
def bdGate (x : SGate) : Prop := 0 ≤ x.Calm ∧ x.Calm < x.Hold ∧ x.Hold ≤ 48
theorem okGate_bd {x : SGate} (h : okGate x = true) : 1 ≤ x.Shut ∧ x.Shut ≤ 1000 ∧ 0 ≤ x.Open ∧ x.Open ≤ x.Shut ∧ 1 ≤ x.Hold ∧ x.Hold ≤ 48 ∧ 0 ≤ x.Calm ∧ x.Calm < x.Hold := by simp [okGate, inr] at h; omega
theorem bdGate_of {x : SGate} (h : okGate x = true) : bdGate x := by have := okGate_bd h; unfold bdGate; omega
def stepG (x : SGate) (h : Int) : SGate :=
  if x.Shuts then (if x.Open ≤ h then ⟨x.Id, x.Shut, x.Open, x.Hold, true, 0⟩ else if x.Calm + 1 = x.Hold then ⟨x.Id, x.Shut, x.Open, x.Hold, false, 0⟩ else ⟨x.Id, x.Shut, x.Open, x.Hold, true, x.Calm + 1⟩)
  else ⟨x.Id, x.Shut, x.Open, x.Hold, decide (x.Shut ≤ h), x.Calm⟩
theorem stepG_0 {x : SGate} {h : Int} (h1 : x.Shuts = false) : stepG x h = ⟨x.Id, x.Shut, x.Open, x.Hold, decide (x.Shut ≤ h), x.Calm⟩ := by rw [stepG, h1]; rfl
theorem stepG_1 {x : SGate} {h : Int} (h1 : x.Shuts = true) (h2 : x.Open ≤ h) : stepG x h = ⟨x.Id, x.Shut, x.Open, x.Hold, true, 0⟩ := by rw [stepG, if_pos h1, if_pos h2]
theorem stepG_2 {x : SGate} {h : Int} (h1 : x.Shuts = true) (h2 : ¬ x.Open ≤ h) (h3 : x.Calm + 1 = x.Hold) : stepG x h = ⟨x.Id, x.Shut, x.Open, x.Hold, false, 0⟩ := by rw [stepG, if_pos h1, if_neg h2, if_pos h3]
theorem stepG_3 {x : SGate} {h : Int} (h1 : x.Shuts = true) (h2 : ¬ x.Open ≤ h) (h3 : ¬ x.Calm + 1 = x.Hold) : stepG x h = ⟨x.Id, x.Shut, x.Open, x.Hold, true, x.Calm + 1⟩ := by rw [stepG, if_pos h1, if_neg h2, if_neg h3]
theorem bd_step {x : SGate} {h : Int} (hb : bdGate x) : bdGate (stepG x h) := by
  unfold bdGate at hb ⊢
  unfold stepG
  repeat' split
  all_goals (simp only; omega)
/-- the gate after k hours -/
def gateAt (x : SGate) (hs : List Int) : Nat → SGate
  | 0 => x
  | k + 1 => if h : k < hs.length then stepG (gateAt x hs k) hs[k] else gateAt x hs k
theorem gateAt_step {x : SGate} {hs : List Int} {k : Nat} {g : SGate} (h : k < hs.length) (hg : gateAt x hs k = g) : gateAt x hs (k + 1) = stepG g hs[k] := by rw [gateAt, dif_pos h, hg]
theorem gateAt_bd {x : SGate} (hs : List Int) (hb : bdGate x) (k : Nat) : bdGate (gateAt x hs k) := by
  induction k with
  | zero => exact hb
  | succ k ih =>
    rw [gateAt]
    split
    · exact bd_step ih
    · exact ih
/-- whether it is shut after each of the first k hours -/
def runL (x : SGate) (hs : List Int) (k : Nat) : List Bool := (List.range k).map fun i => (gateAt x hs (i + 1)).Shuts
theorem runL_len (x : SGate) (hs : List Int) (k : Nat) : (runL x hs k).length = k := by simp [runL]
theorem runL_snoc (x : SGate) (hs : List Int) (k : Nat) : runL x hs (k + 1) = runL x hs k ++ [(gateAt x hs (k + 1)).Shuts] := by simp [runL, List.range_succ]
theorem runL_at (x : SGate) (hs : List Int) (k i : Nat) (h : i < (runL x hs k).length) : (runL x hs k)[i] = (gateAt x hs (i + 1)).Shuts := by simp [runL]
/-- hours, times, the last one -/
def shTo (b : Bool) (l : List Bool) : Nat → Int × Int × Bool
  | 0 => (0, 0, b)
  | k + 1 => match l[k]? with
    | some true => ((shTo b l k).1 + 1, (if (shTo b l k).2.2 then (shTo b l k).2.1 else (shTo b l k).2.1 + 1), true)
    | some false => ((shTo b l k).1, (shTo b l k).2.1, false)
    | none => shTo b l k
theorem sh_no {b : Bool} {l : List Bool} {k : Nat} {h t : Int} {p : Bool} (hk : k < l.length) (hs : shTo b l k = (h, t, p)) (hl : l[k] = false) : shTo b l (k + 1) = (h, t, false) := by
  rw [shTo, List.getElem?_eq_getElem hk, hl, hs]
theorem sh_yes {b : Bool} {l : List Bool} {k : Nat} {h t : Int} (hk : k < l.length) (hs : shTo b l k = (h, t, true)) (hl : l[k] = true) : shTo b l (k + 1) = (h + 1, t, true) := by
  rw [shTo, List.getElem?_eq_getElem hk, hl, hs]; rfl
theorem sh_new {b : Bool} {l : List Bool} {k : Nat} {h t : Int} (hk : k < l.length) (hs : shTo b l k = (h, t, false)) (hl : l[k] = true) : shTo b l (k + 1) = (h + 1, t + 1, true) := by
  rw [shTo, List.getElem?_eq_getElem hk, hl, hs]; rfl
theorem sh_bd (b : Bool) (l : List Bool) (k : Nat) : 0 ≤ (shTo b l k).1 ∧ (shTo b l k).1 ≤ k ∧ 0 ≤ (shTo b l k).2.1 ∧ (shTo b l k).2.1 ≤ k := by
  induction k with
  | zero => simp [shTo]
  | succ k ih =>
    rw [shTo]
    split
    · simp only; split <;> omega
    · simp only; omega
    · omega
def acode (x : SGate) (hs : List Int) (times : Int) : Int := if okGate x then (if allIn 0 1000 hs && inr 0 64 times then (if hs.length ≤ 64 then 0 else 7) else 2) else 1
theorem acode_0 {x : SGate} {hs : List Int} {t : Int} (h : acode x hs t = 0) : okGate x = true ∧ allIn 0 1000 hs = true ∧ hs.length ≤ 64 ∧ inr 0 64 t = true := by
  unfold acode at h
  split at h
  · rename_i h1
    split at h
    · rename_i h2
      rw [Bool.and_eq_true] at h2
      split at h
      · rename_i h3; exact ⟨h1, h2.1, h3, h2.2⟩
      · omega
    · omega
  · omega
def rgRes (x : SGate) (hs : List Int) : List Bool × Int := if acode x hs 0 = 0 then (runL x hs hs.length, 0) else ([], acode x hs 0)
def shRes (x : SGate) (hs : List Int) : Int × Int × Int := if acode x hs 0 = 0 then ((shTo x.Shuts (runL x hs hs.length) hs.length).1, (shTo x.Shuts (runL x hs hs.length) hs.length).2.1, 0) else (0, 0, acode x hs 0)
def fsRes (x : SGate) (hs : List Int) : Int × Int := if acode x hs 0 = 0 then (match fst (hasG id (runL x hs hs.length)) hs.length with | some k => ((k : Int), 0) | none => (0, 3)) else (0, acode x hs 0)
/-- how often it is shut with a hold of n -/
def timesOf (x : SGate) (hs : List Int) (n : Int) : Int := (shTo x.Shuts (runL ⟨x.Id, x.Shut, x.Open, n, x.Shuts, x.Calm⟩ hs hs.length) hs.length).2.1
def lhP (x : SGate) (hs : List Int) (t : Int) (i : Nat) : Bool := decide (timesOf x hs (x.Calm + 1 + (i : Int)) ≤ t)
def lhRes (x : SGate) (hs : List Int) (t : Int) : Int × Int :=
  if acode x hs t = 0 then (match fst (lhP x hs t) (48 - x.Calm).toNat with | some k => (x.Calm + 1 + (k : Int), 0) | none => (0, 3)) else (0, acode x hs t)
theorem lhRes_0 {x : SGate} {hs : List Int} {t : Int} {k : Nat} (hc : acode x hs t = 0) (hk : x.Calm + 1 + (k : Int) ≤ 48) (h : ∀ j, j < k → lhP x hs t j = false) (hp : lhP x hs t k = true) : lhRes x hs t = (x.Calm + 1 + (k : Int), 0) := by
  rw [lhRes, if_pos hc, fst_some (by omega) h hp]
theorem lhRes_3 {x : SGate} {hs : List Int} {t : Int} {n : Nat} (hc : acode x hs t = 0) (hn : (48 - x.Calm).toNat ≤ n) (h : ∀ j, j < n → lhP x hs t j = false) : lhRes x hs t = (0, 3) := by
  rw [lhRes, if_pos hc, fst_none (fun j hj => h j (by omega))]
theorem lhRes_c {x : SGate} {hs : List Int} {t c : Int} (hc : acode x hs t = c) (h : c ≠ 0) : lhRes x hs t = (0, c) := by rw [lhRes, hc, if_neg h]
theorem rgRes_c {x : SGate} {hs : List Int} {c : Int} (hc : acode x hs 0 = c) (h : c ≠ 0) : rgRes x hs = ([], c) := by rw [rgRes, hc, if_neg h]
theorem rgRes_0 {x : SGate} {hs : List Int} (hc : acode x hs 0 = 0) : rgRes x hs = (runL x hs hs.length, 0) := by rw [rgRes, if_pos hc]
theorem rgRes_len (x : SGate) (hs : List Int) : (rgRes x hs).1.length ≤ hs.length := by
  unfold rgRes; split
  · rw [runL_len]; exact Nat.le_refl _
  · simp
theorem shRes_c {x : SGate} {hs : List Int} {c : Int} (hc : acode x hs 0 = c) (h : c ≠ 0) : shRes x hs = (0, 0, c) := by rw [shRes, hc, if_neg h]
theorem shRes_0 {x : SGate} {hs : List Int} {h t : Int} {p : Bool} (hc : acode x hs 0 = 0) (hs' : shTo x.Shuts (runL x hs hs.length) hs.length = (h, t, p)) : shRes x hs = (h, t, 0) := by rw [shRes, if_pos hc, hs']
theorem fsRes_c {x : SGate} {hs : List Int} {c : Int} (hc : acode x hs 0 = c) (h : c ≠ 0) : fsRes x hs = (0, c) := by rw [fsRes, hc, if_neg h]
theorem fsRes_0 {x : SGate} {hs : List Int} {k : Nat} (hc : acode x hs 0 = 0) (hk : k < hs.length) (h : ∀ j, j < k → hasG id (runL x hs hs.length) j = false) (hp : hasG id (runL x hs hs.length) k = true) : fsRes x hs = ((k : Int), 0) := by rw [fsRes, if_pos hc, fst_some hk h hp]
theorem fsRes_3 {x : SGate} {hs : List Int} (hc : acode x hs 0 = 0) (h : ∀ j, j < hs.length → hasG id (runL x hs hs.length) j = false) : fsRes x hs = (0, 3) := by rw [fsRes, if_pos hc, fst_none h]
end Go.Proofs.Ytinijfdopkohfaa
