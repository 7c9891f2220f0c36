/- FnExactValidHistory: for every input the law answers true and leaves its arguments alone. No condition. -/
import Derived.Test.YtfbnckgfgaddkaaL27h
import Derived.Test.YtfbnckgfgaddkaaRowV
namespace Go.Proofs.Ytfbnckgfgaddkaa
set_option linter.unusedSimpArgs false
set_option linter.unusedVariables false
open Go.RowKit
set_option maxHeartbeats 1600000
theorem memo_same {hs ys : List SVer} (h : vSame hs ys) (hm : ∀ i (h : i < hs.length), hs[i].Memo.size ≤ 9223372036854775807) : ∀ i (h : i < ys.length), ys[i].Memo.size ≤ 9223372036854775807 := fun i hi => by
  have hi' : i < hs.length := by rw [← h.1]; exact hi
  rw [(h.2 i hi' hi).2.2]
  exact hm i hi'
theorem lawFnExactValidHistory (A : Option Addr) (c : Nat) (hs : List SVer) (w : World) (h : ArgS SVer.cells 4 w A hs) (hn : hs.length ≤ 9223372036854775807) (hf : ∀ i (h : i < hs.length), ∃ ss, VRead w hs[i] ss) :
    Calls Try.prog 3 #[.slice A hs.length c] w fun e w' => e = .returned (.bool true) ∧ Below w.heap.size w w' := by
  have hS0 : ∀ i : Nat, ∃ ss, ∀ h : i < hs.length, VRead w hs[i] ss := fun i => by
    by_cases hi : i < hs.length
    · obtain ⟨ss, hss⟩ := hf i hi
      exact ⟨ss, fun _ => hss⟩
    · exact ⟨[], fun h => absurd h hi⟩
  obtain ⟨S, hS⟩ := Classical.axiomOfChoice hS0
  have hcon : VCon w hs S := fun i hi => ⟨(hS i hi).1, (hS i hi).2.1⟩
  have hm : ∀ i (h : i < hs.length), hs[i].Memo.size ≤ 9223372036854775807 := fun i hi => (hS i hi).2.2.1
  have hnm : ∀ i, i < hs.length → ∀ j (h : j < (S i).length), (S i)[j].Name.size ≤ 9223372036854775807 := fun i hi => (hS i hi).2.2.2.2
  have hsz : ∀ i (h : i < hs.length), hs[i].Memo.size ≤ 9223372036854775807 ∧ (S i).length ≤ 9223372036854775807 ∧ ∀ j (h : j < (S i).length), (S i)[j].Name.size ≤ 9223372036854775807 := fun i hi => ⟨hm i hi, (hS i hi).2.2.2.1, hnm i hi⟩
  have H := Lib.hid h
  have HC := Lib.hid hcon
  have HM := Lib.hid hm
  have HNM := Lib.hid hnm
  have HSZ := Lib.hid hsz
  clear h hf hS0 hS hcon hm hnm hsz
  go_enter Try.func3, Try.ntmps3
  go_wp2_with fail
  refine (szVersionS_any A c hs S _ _ H.out HC.out HSZ.out hn (by omega) (by omega)).mono ?_
  rintro e w0 ⟨⟨r1, rfl, hr1, hr2, hr3⟩, b0⟩
  by_cases hr : r1 < 0
  · go_wp2
    go_ret
    exact ⟨rfl, b0⟩
  obtain ⟨hN, hN2⟩ := hr3 (by omega)
  have hlen : hs.length ≤ 1048576 := by omega
  have hl : ∀ i, i < hs.length → (S i).length ≤ 1048576 := fun i hi => by have := (hN2 i hi).1; omega
  have HL := Lib.hid hl
  clear hN2 hr3 hl
  go_wp2_with fail
  refine (toVersionS_any A c hs S _ (H.out.below b0) (HC.out.below b0) hlen HL.out).mono ?_
  rintro e w1 ⟨⟨y1, rfl, a1, q1, v1⟩, hb1⟩
  have hb := Bel.trans b0 hb1
  have e1 := v1.1
  have hl1 : ∀ i, i < y1.length → (S i).length ≤ 1048576 := fun i hi => HL.out i (by omega)
  have hn1 : ∀ i, i < y1.length → ∀ j (h : j < (S i).length), (S i)[j].Name.size ≤ 9223372036854775807 := fun i hi => HNM.out i (by omega)
  have hlen1 : y1.length ≤ 1048576 := by omega
  have HA1 := Lib.hid a1
  have HQ1 := Lib.hid q1
  have HV1 := Lib.hid v1
  have HL1 := Lib.hid hl1
  have HN1 := Lib.hid hn1
  clear a1 q1 v1 e1 hl1 hn1 hb1
  go_wp2_with fail
  refine (sValidHistory_any y1 S _ _ _ HA1.out HQ1.out hlen1 HL1.out (memo_same HV1.out HM.out) HN1.out).mono ?_
  rintro e w2 ⟨rfl, hb2⟩
  rw [vOk_same HV1.out]
  have hb := Bel.trans hb hb2
  clear hb2 HA1 HQ1 HL1 HN1
  go_wp2_with fail
  refine (toVersionS_any A c hs S _ (H.out.below hb) (HC.out.below hb) hlen HL.out).mono ?_
  rintro e w3 ⟨⟨y3, rfl, a3, q3, v3⟩, hb3⟩
  have hb := Bel.trans hb hb3
  have e3 := v3.1
  have hl3 : ∀ i, i < y3.length → (S i).length ≤ 1048576 := fun i hi => HL.out i (by omega)
  have hn3 : ∀ i, i < y3.length → ∀ j (h : j < (S i).length), (S i)[j].Name.size ≤ 9223372036854775807 := fun i hi => HNM.out i (by omega)
  have hlen3 : y3.length ≤ 1048576 := by omega
  have HA3 := Lib.hid a3
  have HQ3 := Lib.hid q3
  have HV3 := Lib.hid v3
  have HL3 := Lib.hid hl3
  have HN3 := Lib.hid hn3
  clear a3 q3 v3 e3 hl3 hn3 hb3
  go_wp2_with fail
  refine (ValidHistory_any y3 S _ _ _ HA3.out HQ3.out hlen3 HL3.out (memo_same HV3.out HM.out) HN3.out).mono ?_
  rintro e w4 ⟨rfl, hb4⟩
  rw [vOk_same HV3.out]
  have hb := Bel.trans hb hb4
  have HA3 := Lib.hid (HA3.out.below hb4)
  have HQ3 := Lib.hid (HQ3.out.below hb4)
  clear hb4
  generalize vOk hs S = vo at *
  go_wp2_with fail
  refine (toVersionS_any A c hs S _ (H.out.below hb) (HC.out.below hb) hlen HL.out).mono ?_
  rintro e w5 ⟨⟨y5, rfl, a5, q5, v5⟩, hb5⟩
  have hb := Bel.trans hb hb5
  have HA3 := Lib.hid (HA3.out.below hb5)
  have HQ3 := Lib.hid (HQ3.out.below hb5)
  have HV35 := Lib.hid (HV3.out.trans' v5)
  have HA5 := Lib.hid a5
  have HQ5 := Lib.hid q5
  clear a5 q5 v5 hb5
  go_wp2_with fail
  refine (eqVersionS_any _ _ _ _ y3 y5 S _ HA3.out HA5.out HQ3.out HQ5.out HV35.out hlen3 HL3.out).mono ?_
  rintro e w6 ⟨rfl, hb6⟩
  go_wp2
  go_ret
  exact ⟨rfl, Bel.trans hb hb6⟩
end Go.Proofs.Ytfbnckgfgaddkaa
