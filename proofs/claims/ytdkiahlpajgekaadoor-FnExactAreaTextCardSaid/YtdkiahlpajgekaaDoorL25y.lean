/- Chapter 25: an area as text: a number in decimal. -/
import Derived.Test.YtdkiahlpajgekaaDoorL25
import Derived.Test.YtdkiahlpajgekaaDoorApp
import Derived.Test.YtdkiahlpajgekaaDoorLTArea
import Derived.Test.YtdkiahlpajgekaaDoorShelf
import Derived.Laws.IdiomStrings
import Derived.Lib.LaidTab
import Derived.Lib.ItoaMem
import Derived.Lib.AppendIntMem
import Derived.Lib.SmallJoins
namespace Go.Proofs.YtdkiahlpajgekaaDoor
set_option linter.unusedSimpArgs false
set_option linter.unusedVariables false
open Go.RowKit
set_option maxHeartbeats 800000
/-- The decimal digits, the last one first. -/
def rd (m : Nat) : List UInt8 := if h : m = 0 then [] else UInt8.ofNat (48 + m % 10) :: rd (m / 10)
termination_by m
decreasing_by omega
theorem rd_0 : rd 0 = [] := by rw [rd]; rfl
theorem rd_s {m : Nat} (h : m ≠ 0) : rd m = UInt8.ofNat (48 + m % 10) :: rd (m / 10) := by rw [rd, dif_neg h]
theorem dec_rd (n : Nat) (h : 0 < n) : Lib.decDigits n = (rd n).reverse := by
  induction n using Nat.strongRecOn with
  | _ n ih =>
    rw [Lib.decDigits, rd_s (by omega), List.reverse_cons]
    by_cases h10 : n < 10
    · rw [dif_pos h10, show n / 10 = 0 by omega, rd_0, show n % 10 = n by omega]; rfl
    · rw [dif_neg h10, ih (n / 10) (by omega) (by omega)]
def decS (n : Nat) : List UInt8 := if n = 0 then [48] else (rd n).reverse
def decB (n : Nat) : ByteArray := ⟨(decS n).toArray⟩
theorem rd_len (n : Nat) : (rd n).length ≤ n := by
  induction n using Nat.strongRecOn with
  | _ n ih =>
    by_cases h : n = 0
    · rw [h, rd_0]; simp
    · rw [rd_s h]
      have := ih (n / 10) (by omega)
      simp only [List.length_cons]; omega
theorem decB_size (n : Nat) : (decB n).size ≤ n + 1 := by
  show (decS n).toArray.size ≤ n + 1
  unfold decS
  split
  · simp
  · have := rd_len n; simp; omega
theorem itoa_dec (n : Nat) : Lib.itoa (n : Int) = decS n := by
  unfold Lib.itoa decS
  rw [if_neg (by omega), Int.toNat_natCast]
  by_cases h : n = 0
  · subst h; rw [if_pos rfl, Lib.decDigits]; rfl
  · rw [if_neg h, dec_rd n (by omega)]
def ubc (b : UInt8) : List Value := [.int .u8 (b.toNat : Int)]
theorem wpList_pushU {P : Program} {ops : Array Oper} {rest : List Oper} {o : Oper} {a : Act} {Q : Exit → Act → World → Prop} {w : World} (hgd : o.guard = none) (s x : Operand) (t : TypeId)
    (ho : o.op = .call { callee := .builtin .append, args := #[s, x], argTypes := #[t, t] }) (base : Nat) (e : TypeId) (ht : P.underlying t = some (.slice e))
    (hi : (P.info? e).map (fun i => (i.zero, i.size, i.bytes)) = some (some (.int .u8 0), 1, 1))
    (v : Value) (ys : List UInt8) (y : UInt8) (z : Int) (hz : z = (y.toNat : Int)) (hs : a.eval s = v) (R : Row ubc 1 e w base v ys) (c : Nat) (hx : a.eval x = .slice (some ⟨w.heap.size, 0, none⟩) 1 c) (hn : ys.length ≤ 1048577) (hbase : base ≤ w.heap.size)
    (h : ∀ v' w', Row ubc 1 e w' base v' (ys ++ [y]) → w.grownBy w' v.ownBlock → Below base w w' → wpList P ops Q rest (a.put o.dst v') w') :
    wpList P ops Q (o :: rest) a (w.alloc (.cells #[.int .u8 z] e)) := by
  subst hz
  refine wpList_push hgd s x t ho base e (.int .u8 0) 1 1 ht hi rfl (by decide) (by decide) ubc v ys y hs (R.alloc _) w.heap.size c hx rfl (fun j u hu => ?_) (fun u hu => ?_) hn (by simp; omega) fun v' w' hr hg hb => h v' w' hr ?_ ?_
  · rw [(Box.new w e #[.int .u8 (y.toNat : Int)]).cell j]; simpa [ubc] using hu
  · simp only [ubc, List.mem_singleton] at hu; subst hu; rfl
  · exact ⟨hg.os, hg.tape, hg.output, Nat.le_trans (by simp) hg.size, fun k hk hne => (hg.block k (by simp; omega) hne).trans (Below.heap_alloc w _ k hk)⟩
  · exact ((Below.refl base w).alloc hbase _).trans hb
theorem take_rev (xs : List UInt8) (q : Nat) (hq : q < xs.length) : xs.reverse.take (xs.length - (q + 1)) ++ [xs[q]] = xs.reverse.take (xs.length - q) := by
  have e : xs.length - q = (xs.length - (q + 1)) + 1 := by omega
  rw [e, List.take_add_one, List.getElem?_eq_getElem (by simp; omega), List.getElem_reverse]
  simp only [Option.toList]
  congr 2
  congr 1
  omega
theorem l01Dec_any (n : Nat) (hn : n ≤ 1000000) (w : World) : Calls Tryd.prog 14 #[.int .i64 (n : Int)] w fun e w' => e = .returned (.string (decB n)) ∧ Below w.heap.size w w' := by
  by_cases h0 : n = 0
  · subst h0
    go_enter Tryd.func14, Tryd.ntmps14
    go_wp2
    go_ret
    exact ⟨rfl, (by repeat (first | (with_reducible assumption) | (with_reducible exact Below.refl _ _) | (with_reducible refine Bel.alloc ?_ _) | (with_reducible refine Below.drew ?_) | (with_reducible refine Bel.drewN ?_ _) | (with_reducible refine Bel.setCell ?_ (by (try simp) <;> omega) _) | (with_reducible refine Bel.trans ?_ (by assumption))))⟩
  · have hne : ((n : Int) == 0) = false := by simp; omega
    go_enter Tryd.func14, Tryd.ntmps14
    go_wp2_with fail
    go_loopw [3, 4] (fun v i wr => ∃ (k : Nat) (xs : List UInt8), k ≤ n ∧ i = .int .i64 k ∧ Row ubc 1 5 wr w.heap.size v xs ∧ Hid (xs ++ rd k = rd n) ∧ xs.length + k ≤ n ∧ Below w.heap.size w wr) (fun _ i wr => (intOf i).toNat)
    case atStart => exact ⟨n, [], Nat.le_refl _, rfl, Row.empty (Nat.le_refl _), Lib.hid rfl, by simp, (by repeat (first | (with_reducible assumption) | (with_reducible exact Below.refl _ _) | (with_reducible refine Bel.alloc ?_ _) | (with_reducible refine Below.drew ?_) | (with_reducible refine Bel.drewN ?_ _) | (with_reducible refine Bel.setCell ?_ (by (try simp) <;> omega) _) | (with_reducible refine Bel.trans ?_ (by assumption))))⟩
    case round =>
      obtain ⟨k, xs, hk, rfl, hrow, HE, hlen, hbel⟩ := hrel
      have HR := Lib.hid hrow
      have hsz := hbel.size
      clear hrow
      by_cases hlt : k = 0
      · have hxs : xs = rd n := by have := HE.out; rw [hlt, rd_0, List.append_nil] at this; exact this
        have hkz : ((k : Int) != 0) = false := by simp [hlt]
        have HXS := Lib.hid hxs
        have hnn : decide ((n : Int) < 0) = false := by simp
        clear hxs hlt
        obtain ⟨A, cp, rfl, hA⟩ := HR.out.form (fun _ => rfl)
        have HA := Lib.hid hA
        clear hA
        go_wp2_with fail
        try simp only [hnn, hkz]
        go_loopw [6, 7] (fun v i w2 => ∃ (r : Nat) (ys : List UInt8), r ≤ xs.length ∧ i = .int .i64 ((r : Int) - 1) ∧ Row ubc 1 5 w2 wr.heap.size v ys ∧ Hid (ys = xs.reverse.take (xs.length - r)) ∧ ys.length + r ≤ xs.length ∧ Below wr.heap.size wr w2) (fun _ i w2 => (intOf i + 1).toNat)
        case atStart => exact ⟨xs.length, [], Nat.le_refl _, by go_num, Row.empty (Nat.le_refl _), Lib.hid (by rw [Nat.sub_self]; rfl), by simp, (by repeat (first | (with_reducible assumption) | (with_reducible exact Below.refl _ _) | (with_reducible refine Bel.alloc ?_ _) | (with_reducible refine Below.drew ?_) | (with_reducible refine Bel.drewN ?_ _) | (with_reducible refine Bel.setCell ?_ (by (try simp) <;> omega) _) | (with_reducible refine Bel.trans ?_ (by assumption))))⟩
        case round =>
          obtain ⟨r, ys, hr, rfl, hrow2, HY2, hlen2, hbel2⟩ := hrel
          have HR2 := Lib.hid hrow2
          have hsz2 := hbel2.size
          clear hrow2
          rcases Nat.eq_zero_or_pos r with hr0 | hr0
          · subst hr0
            have hys : ys = xs.reverse := by
              have := HY2.out
              rw [Nat.sub_zero, show xs.length = xs.reverse.length by simp, List.take_length] at this
              exact this
            have hpos : 0 < ys.length := by
              rw [hys, List.length_reverse, HXS.out, rd_s h0]; simp
            have HYS := Lib.hid hys
            clear hys
            obtain ⟨A2, cp2, rfl, hA2⟩ := HR2.out.form (fun _ => rfl)
            obtain ⟨b2, o2, rfl, hb2, hc2⟩ := hA2 hpos
            have hcv := run_convert_bytes_back (P := Tryd.prog) wr 38 9 5 ⟨b2, o2, none⟩ cp2 ys Tryd.underlying38 Tryd.underlying5 Tryd.underlying9 (fun j hj => by
              rw [Go.WideShapes.add_plain]
              simpa using hc2 j hj 0 _ rfl)
            clear HR2 hc2 hb2
            go_wp2
            go_ret
            refine ⟨?_, Bel.trans hbel hbel2⟩
            have h1 := HYS.out
            have h2 := HXS.out
            rw [h1, h2]
            unfold decB decS
            rw [if_neg h0]
            rfl
          · obtain ⟨q, rfl⟩ : ∃ q, r = q + 1 := ⟨r - 1, by omega⟩
            have eq1 : (((q + 1 : Nat) : Int) - 1) = (q : Int) := by omega
            rw [eq1]
            have hq : q < xs.length := by omega
            obtain ⟨b1, o1, rfl, hb1, hc1⟩ := HA.out (by omega)
            have cq : wr.cell? ⟨b1, o1 + q, none⟩ = some (.int .u8 (xs[q].toNat : Int)) := (hbel2.cell (p := ⟨b1, o1 + q, none⟩) hb1).trans (by simpa using hc1 q hq 0 _ rfl)
            clear hc1 hb1
            go_wp2_with (at_builtin; refine wpList_pushU rfl _ _ 38 rfl _ 5 Tryd.underlying38 (by kernel_rfl) u6 ys xs[q] _ rfl rfl HR2.out 1 rfl (by omega) hsz2 ?_; intro v' w3 hr3 hg3 hb4)
            go_roundw
            case rel => exact ⟨q, _, by omega, by go_num, hr3, Lib.hid (by rw [HY2.out]; exact take_rev xs q hq), by simp; omega, hbel2.trans hb4⟩
            case measure => simp [intOf] <;> omega
      · have hke : ((k : Int) == 0) = false := by simp; omega
        have hkm : (k : Int).tmod 10 = ((k % 10 : Nat) : Int) := by rw [Int.tmod_eq_emod_of_nonneg (by omega)]; omega
        have hkd : (k : Int).tdiv 10 = ((k / 10 : Nat) : Int) := by rw [Int.tdiv_eq_ediv_of_nonneg (by omega)]; omega
        have hy : (48 : Int) + (k : Int) % 10 = ((UInt8.ofNat (48 + k % 10)).toNat : Int) := by
          rw [UInt8.toNat_ofNat']; omega
        have HY := Lib.hid hy
        clear hy
        go_wp2_with (at_builtin; refine wpList_pushU rfl _ _ 38 rfl w.heap.size 5 Tryd.underlying38 (by kernel_rfl) u3 xs (UInt8.ofNat (48 + k % 10)) _ HY.out rfl HR.out 1 rfl (by omega) hsz ?_; intro v' w3 hr3 hg3 hb4)
        go_roundw
        case rel => exact ⟨k / 10, _, by omega, by go_num, hr3, Lib.hid (by rw [← HE.out, rd_s hlt]; simp), by simp; omega, hbel.trans hb4⟩
        case measure => simp [intOf]; omega
theorem Decimal_any (n : Nat) (hn : n ≤ 1000000) (w : World) (T : Lib.TabIs Tryd.prog w "internal/strconv.uint64pow10" .u64 Lib.pow10Tab) :
    Calls Tryd.prog 11 #[.int .i64 (n : Int)] w fun e w' => e = .returned (.string (decB n)) ∧ Below w.heap.size w w' := by
  have HT := Lib.hid T
  clear T
  go_enter Tryd.func11, Tryd.ntmps11
  go_wp2_with fail
  refine (Tryd.strconv_FormatInt_10 (n : Int) (by omega) (by omega) w HT.out).mono ?_
  rintro e w1 ⟨rfl, k, os, rfl⟩
  rw [itoa_dec]
  go_wp2
  go_ret
  exact ⟨rfl, Lib.below_grow w.heap.size w (Nat.le_refl _) k os⟩
theorem isName_size {s : ByteArray} (h : isName s = true) : s.size ≤ 10 := by
  unfold isName at h
  split at h
  · simp at h; exact h.1.1
  · cases h
theorem okArea_bd {x : SArea} (h : okArea x = true) : x.Id.size ≤ 10 ∧ 0 ≤ x.Chance ∧ x.Chance ≤ 1000 ∧ 1 ≤ x.Minutes ∧ x.Minutes ≤ 600 := by
  simp only [okArea, inr, Bool.and_eq_true, decide_eq_true_eq] at h
  exact ⟨isName_size h.1.1, by omega, by omega, by omega, by omega⟩
theorem tabPast {W : World} (T : Lib.TabIs Tryd.prog W "internal/strconv.uint64pow10" .u64 Lib.pow10Tab) (x : Past W) : Lib.TabIs Tryd.prog x.w "internal/strconv.uint64pow10" .u64 Lib.pow10Tab := by
  exact Go.Joins.tab_stays (g := 0) (by kernel_rfl) T x.h (Nat.le_refl _)
def areaText (x : SArea) : ByteArray := if okArea x then (((x.Id ++ ⟨#[32]⟩) ++ decB x.Chance.toNat) ++ ⟨#[47]⟩) ++ decB x.Minutes.toNat else ⟨#[]⟩
theorem areaText_1 {x : SArea} (h : okArea x = false) : areaText x = ⟨#[]⟩ := by rw [areaText, h]; rfl
theorem areaText_0 {x : SArea} (h : okArea x = true) : areaText x = (((x.Id ++ ⟨#[32]⟩) ++ decB x.Chance.toNat) ++ ⟨#[47]⟩) ++ decB x.Minutes.toNat := by rw [areaText, if_pos h]
theorem Decimal_int (n : Int) (h0 : 0 ≤ n) (h1 : n ≤ 1000000) (w : World) (T : Lib.TabIs Tryd.prog w "internal/strconv.uint64pow10" .u64 Lib.pow10Tab) :
    Calls Tryd.prog 11 #[.int .i64 n] w fun e w' => e = .returned (.string (decB n.toNat)) ∧ Below w.heap.size w w' := by
  obtain ⟨k, rfl⟩ := Int.eq_ofNat_of_zero_le h0
  exact Decimal_any k (by omega) w T
theorem l01Dec_int (n : Int) (h0 : 0 ≤ n) (h1 : n ≤ 1000000) (w : World) : Calls Tryd.prog 14 #[.int .i64 n] w fun e w' => e = .returned (.string (decB n.toNat)) ∧ Below w.heap.size w w' := by
  obtain ⟨k, rfl⟩ := Int.eq_ofNat_of_zero_le h0
  exact l01Dec_any k (by omega) w
theorem AreaText_any (x : SArea) (w : World) (hs : x.Id.size ≤ 9223372036854775807) (T : Lib.TabIs Tryd.prog w "internal/strconv.uint64pow10" .u64 Lib.pow10Tab) :
    Calls Tryd.prog 7 #[.agg #[.string x.Id, .int .i64 x.Chance, .int .i64 x.Minutes]] w fun e w' => e = .returned (.string (areaText x)) ∧ Below w.heap.size w w' := by
  have HT := Lib.hid T
  clear T
  cases hv : okArea x
  · rw [areaText_1 hv]
    have HV := Lib.hid hv
    clear hv
    go_enter Tryd.func7, Tryd.ntmps7
    go_wp2_with fail
    refine calls_box_out ?_
    intro W hbw B1
    refine (Calls.boolIs HV.out (validArea_any x _ hs)).mono ?_
    rintro e w1 ⟨rfl, hb1⟩
    go_wp2
    go_ret
    exact ⟨rfl, Bel.trans hbw hb1⟩
  · rw [areaText_0 hv]
    obtain ⟨h0, h1, h2, h3, h4⟩ := okArea_bd hv
    have hC := decB_size x.Chance.toNat
    have hM := decB_size x.Minutes.toNat
    have HV := Lib.hid hv
    clear hv
    go_enter Tryd.func7, Tryd.ntmps7
    go_wp2_with fail
    refine calls_box_out ?_
    intro W hbw B1
    refine (Calls.boolIs HV.out (validArea_any x _ hs)).mono ?_
    rintro e w1 ⟨rfl, hb1⟩
    have hbw := Bel.trans hbw hb1
    have B1 := B1.below hb1
    have T1 := tabPast HT.out ⟨w1, hbw⟩
    dsimp only at T1
    have HT1 := Lib.hid T1
    have p0 := Past.box B1 (j := 0) (v := .string x.Id) rfl
    have p1 := Past.box B1 (j := 1) (v := .int .i64 x.Chance) rfl
    have p2 := Past.box B1 (j := 2) (v := .int .i64 x.Minutes) rfl
    clear B1 hb1 T1
    go_wp2_with fail
    refine wp_region_past (by kernel_rfl) (by kernel_rfl) ?_
    repeat (go_big_quiet_step ((first | (go_at_call_of 11 x.Chance; exact Past.call _ (Decimal_int x.Chance (by omega) (by omega) _ (tabPast HT1.out _))) | (go_at_call_of 11 x.Minutes; exact Past.call _ (Decimal_int x.Minutes (by omega) (by omega) _ (tabPast HT1.out _))))))
    refine wpQuiet_nil ?_
    intro W1 hw'
    obtain ⟨⟨W_, hb1⟩, hw''⟩ := hw'
    subst hw''
    go_wp2
    go_ret
    exact ⟨rfl, Bel.trans hbw hb1⟩
theorem l25Text_any (x : SArea) (b : Nat) (w : World) (B : Box 26 w b #[.string x.Id, .int .i64 x.Chance, .int .i64 x.Minutes]) (h0 : x.Id.size ≤ 10) (h1 : 0 ≤ x.Chance) (h2 : x.Chance ≤ 1000) (h3 : 1 ≤ x.Minutes) (h4 : x.Minutes ≤ 600) :
    Calls Tryd.prog 9 #[.pointer (some ⟨b, 0, none⟩)] w fun e w' => e = .returned (.string ((((x.Id ++ ⟨#[32]⟩) ++ decB x.Chance.toNat) ++ ⟨#[47]⟩) ++ decB x.Minutes.toNat)) ∧ Below w.heap.size w w' := by
  have p0 := Past.box B (j := 0) (v := .string x.Id) rfl
  have p1 := Past.box B (j := 1) (v := .int .i64 x.Chance) rfl
  have p2 := Past.box B (j := 2) (v := .int .i64 x.Minutes) rfl
  have hC := decB_size x.Chance.toNat
  have hM := decB_size x.Minutes.toNat
  clear B
  go_enter Tryd.func9, Tryd.ntmps9
  go_wp2_with fail
  refine wp_region_past (by kernel_rfl) (by kernel_rfl) ?_
  repeat (go_big_quiet_step ((first | (go_at_call_of 14 x.Chance; exact Past.call _ (l01Dec_int x.Chance (by omega) (by omega) _)) | (go_at_call_of 14 x.Minutes; exact Past.call _ (l01Dec_int x.Minutes (by omega) (by omega) _)))))
  refine wpQuiet_nil ?_
  intro W1 hw'
  obtain ⟨⟨W_, hb1⟩, hw''⟩ := hw'
  subst hw''
  go_wp2
  go_ret
  exact ⟨rfl, hb1⟩
theorem sAreaText_any (x : SArea) (w : World) (hs : x.Id.size ≤ 9223372036854775807) :
    Calls Tryd.prog 5 #[.agg #[.string x.Id, .int .i64 x.Chance, .int .i64 x.Minutes]] w fun e w' => e = .returned (.string (areaText x)) ∧ Below w.heap.size w w' := by
  cases hv : okArea x
  · rw [areaText_1 hv]
    have HV := Lib.hid hv
    clear hv
    go_enter Tryd.func5, Tryd.ntmps5
    go_wp2_with fail
    refine calls_box_out ?_
    intro W hbw B1
    refine (Calls.boolIs HV.out (l25One_any x w.heap.size 0 _ (B1.cell 0) (B1.cell 1) (B1.cell 2) hs)).mono ?_
    rintro e w1 ⟨rfl, rfl⟩
    go_wp2
    go_ret
    exact ⟨rfl, hbw⟩
  · rw [areaText_0 hv]
    obtain ⟨h0, h1, h2, h3, h4⟩ := okArea_bd hv
    have hC := decB_size x.Chance.toNat
    have hM := decB_size x.Minutes.toNat
    have HV := Lib.hid hv
    clear hv
    go_enter Tryd.func5, Tryd.ntmps5
    go_wp2_with fail
    refine calls_box_out ?_
    intro W hbw B1
    refine (Calls.boolIs HV.out (l25One_any x w.heap.size 0 _ (B1.cell 0) (B1.cell 1) (B1.cell 2) hs)).mono ?_
    rintro e w1 ⟨rfl, rfl⟩
    have HB := Lib.hid B1
    clear B1
    go_wp2_with fail
    refine (l25Text_any x w.heap.size _ HB.out h0 h1 h2 h3 h4).mono ?_
    rintro e w1 ⟨rfl, hb1⟩
    go_wp2
    go_ret
    exact ⟨rfl, Bel.trans hbw hb1⟩
theorem lawFnExactAreaText (x : SArea) (w : World) (hx : x.fits) (T : Lib.TabIs Tryd.prog w "internal/strconv.uint64pow10" .u64 Lib.pow10Tab) :
    Calls Tryd.prog 3 #[.agg #[.string x.Id, .int .i64 x.Chance, .int .i64 x.Minutes]] w fun e w' => e = .returned (.bool true) ∧ Below w.heap.size w w' := by
  have hsx := SArea.sizes hx
  have HT := Lib.hid T
  clear hx T
  go_enter Tryd.func3, Tryd.ntmps3
  go_wp2_with fail
  refine calls_box_out ?_
  intro W hbw B1
  refine (szArea_any x 1048576 _ hsx (by omega) (by omega)).mono ?_
  rintro e w1 ⟨⟨r1, rfl, hr1, hr2, hr3⟩, hb1⟩
  have hbw := Bel.trans hbw hb1
  have B1 := B1.below hb1
  clear hb1
  by_cases hr : r1 < 0
  · go_wp2
    go_ret
    exact ⟨rfl, hbw⟩
  have hr0 : 0 ≤ r1 := by omega
  have c0 : w1.cell? ⟨w.heap.size, 0, none⟩ = some (.string x.Id) := B1.cell 0
  have c1 : w1.cell? ⟨w.heap.size, 1, none⟩ = some (.int .i64 x.Chance) := B1.cell 1
  have c2 : w1.cell? ⟨w.heap.size, 2, none⟩ = some (.int .i64 x.Minutes) := B1.cell 2
  go_wp2_with fail
  refine (toArea_any x _).mono ?_
  rintro e w2 ⟨rfl, hb1⟩
  have hbw := Bel.trans hbw hb1
  have B1 := B1.below hb1
  clear c0 c1 c2 hb1
  go_wp2_with fail
  refine (sAreaText_any x _ hsx).mono ?_
  rintro e w3 ⟨rfl, hb1⟩
  have hbw := Bel.trans hbw hb1
  have B1 := B1.below hb1
  have c0 : w3.cell? ⟨w.heap.size, 0, none⟩ = some (.string x.Id) := B1.cell 0
  have c1 : w3.cell? ⟨w.heap.size, 1, none⟩ = some (.int .i64 x.Chance) := B1.cell 1
  have c2 : w3.cell? ⟨w.heap.size, 2, none⟩ = some (.int .i64 x.Minutes) := B1.cell 2
  clear hb1 B1
  go_wp2_with fail
  refine (toArea_any x _).mono ?_
  rintro e w4 ⟨rfl, hb1⟩
  have hbw := Bel.trans hbw hb1
  have T4 := tabPast HT.out ⟨w4, hbw⟩
  dsimp only at T4
  have HT4 := Lib.hid T4
  clear c0 c1 c2 hb1 T4
  go_wp2_with fail
  refine (AreaText_any x _ hsx HT4.out).mono ?_
  rintro e w5 ⟨rfl, hb1⟩
  go_wp2
  go_ret
  exact ⟨rfl, Bel.trans hbw hb1⟩
end Go.Proofs.YtdkiahlpajgekaaDoor
