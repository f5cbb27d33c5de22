/- Several texts in one: Srv SrvB Lex Idx Srt Wks Wkt. -/
import Derived.Test.YtllfchcocgdcjaaGreatGrB
import Derived.Test.YtllfchcocgdcjaaGreatGrD
import Derived.Test.YtllfchcocgdcjaaGreatGrE
import Derived.Test.YtllfchcocgdcjaaGreatGrC
import Derived.Laws.Bits64b
import Derived.IntWalk
import Derived.Test.YtllfchcocgdcjaaGreatShelf
import Derived.Sort.OwnSortedInts
import Derived.Lib.OwnBridge
import Derived.Deep.RegionHeld3
/- Tests on configurations and sequences of servers, of the program and of the reference. Written by srv.py. -/
namespace Go.Proofs.YtllfchcocgdcjaaGreat
open Go.RowKit

def ascB (xs : List Int) : Bool := decide (∀ i, i < xs.length - 1 → nth xs i ≤ nth xs (i + 1))
theorem ascB_of {xs : List Int} (h : ∀ i, i + 1 < xs.length → nth xs i ≤ nth xs (i + 1)) : ascB xs = true := by
  simp only [ascB, decide_eq_true_eq]
  exact fun i hi => h i (by omega)
theorem ascB_not {xs : List Int} {i : Nat} (hi : i + 1 < xs.length) (h : nth xs (i + 1) < nth xs i) : ascB xs = false := by
  rw [ascB, decide_eq_false_iff_not]
  intro h'
  have := h' i (by omega)
  omega
def cfgB (n : Int) (a : List Int) : Bool := inB a.length 1 3 && (belowB n a && ascB a)
def srvB (M : List (List Int)) (a X : List Int) : Bool := metB M && (cfgB M.length a && (decide (X.length ≤ 60) && belowB M.length X))
theorem asc_chain {xs : List Int} (h : ascB xs = true) {i : Nat} : ∀ {d : Nat}, i + d < xs.length → nth xs i ≤ nth xs (i + d)
  | 0, _ => Int.le_refl _
  | d + 1, hd => by
    have h1 := asc_chain h (i := i) (d := d) (by omega)
    simp only [ascB, decide_eq_true_eq] at h
    have h2 := h (i + d) (by omega)
    exact Int.le_trans h1 h2
theorem ascB_asc {xs : List Int} : ascB xs = true ↔ Asc xs := by
  constructor
  · intro h
    rw [Asc, List.pairwise_iff_getElem]
    intro i j hi hj hij
    have := asc_chain h (i := i) (d := j - i) (by omega)
    rw [show i + (j - i) = j by omega] at this
    simpa [nth, hi, hj] using this
  · intro h
    rw [Asc, List.pairwise_iff_getElem] at h
    refine ascB_of fun i hi => ?_
    have := h i (i + 1) (by omega) hi (by omega)
    simpa [nth, hi, show i < xs.length by omega] using this
theorem cfgB_iff {n : Nat} {a : List Int} : cfgB n a = true ↔ (1 ≤ a.length ∧ a.length ≤ 3) ∧ Pts n a ∧ Asc a := by
  simp only [cfgB, Bool.and_eq_true]
  rw [ascB_asc]
  constructor
  · rintro ⟨h1, h2, h3⟩
    have := inB_true.1 h1
    refine ⟨by omega, fun x hx => ?_, h3⟩
    obtain ⟨k, hk, rfl⟩ := mem_iff_nth.1 hx
    exact belowB_at h2 hk
  · rintro ⟨h1, h2, h3⟩
    refine ⟨inB_true.2 (by omega), belowB_of fun k hk => ?_, h3⟩
    have := h2 _ (nth_mem hk)
    exact inB_true.2 (by omega)
theorem srvB_iff {M : List (List Int)} {a X : List Int} : srvB M a X = true ↔ metB M = true ∧ cfgB M.length a = true ∧ X.length ≤ 60 ∧ belowB M.length X = true := by
  simp [srvB]

set_option maxHeartbeats 400000 in
theorem isNaN_any (x : Int) (w : World) : Calls Tryz.prog 102 #[.int .i64 x] w fun e w' => e = .returned (.bool false) ∧ w = w' := by
  have h : (x != x) = false := by simp
  go_enter Tryz.func102, Tryz.ntmps102
  go_wp2
  go_ret
  exact ⟨rfl, rfl⟩
set_option maxHeartbeats 400000 in
theorem less_any (x y : Int) (w : World) : Calls Tryz.prog 92 #[.int .i64 x, .int .i64 y] w fun e w' => e = .returned (.bool (decide (x < y))) ∧ w = w' := by
  go_enter Tryz.func92, Tryz.ntmps92
  go_wp2_with (go_at_call 102; refine (isNaN_any _ _).mono ?_; rintro e w' ⟨rfl, rfl⟩)
  go_ret
  exact ⟨rfl, rfl⟩
set_option maxHeartbeats 800000 in
set_option maxRecDepth 100000 in
theorem isSorted_any {v : Value} {xs : List Int} {w0 w : World} [Ext w0 w] (hx : IsInts w0 v xs) :
    Calls Tryz.prog 69 #[v] w fun e w' => e = .returned (.bool (ascB xs)) ∧ Ext w w' := by
  obtain ⟨a, c, rfl, la⟩ := hx.form
  go_enter Tryz.func69, Tryz.ntmps69
  go_wp2
  go_loopw [3] (fun i wr => ∃ k : Nat, (k < xs.length ∨ (k = 0 ∧ xs.length = 0)) ∧ ((i = .int .i64 k ∧ 0 < xs.length) ∨ (xs.length = 0 ∧ i = .int .i64 (-1))) ∧ Hid (∀ j, k ≤ j → j + 1 < xs.length → nth xs j ≤ nth xs (j + 1)) ∧ Ext w wr) (fun i _ => (intOf i).toNat)
  case atStart =>
    rcases Nat.eq_zero_or_pos xs.length with h | h
    · exact ⟨0, .inr ⟨rfl, h⟩, .inr ⟨h, by rw [h]; rfl⟩, fun j _ hj => by omega, Ext.refl _⟩
    · refine ⟨xs.length - 1, .inl (by omega), .inl ⟨?_, h⟩, fun j hj hj2 => by omega, Ext.refl _⟩
      congr 1
      omega
  case round =>
    obtain ⟨k, hk, hi, hno, hxw⟩ := hrel
    rcases hi with ⟨rfl, hpos⟩ | ⟨h0, rfl⟩
    · by_cases hk0 : k = 0
      · have hr := hid (show ascB xs = true from ascB_of fun j hj => hno.out j (by omega) hj)
        subst hk0
        go_wp2
        go_ret
        exact ⟨ret_bool hr.out.symm, hxw⟩
      · obtain ⟨k, rfl⟩ : ∃ q, k = q + 1 := ⟨k - 1, by omega⟩
        have hkl : k + 1 < xs.length := by omega
        have e0 : Ext w0 wr := Ext.trans ‹Ext w0 w› hxw
        obtain ⟨b, o, rfl, hc1⟩ := hx.at (w' := wr) hkl
        obtain ⟨b', o', hq, hc2⟩ := hx.at (w' := wr) (k := k) (by omega)
        cases hq
        have hk2 : k < xs.length := by omega
        have e1 : ((k + 1 : Nat) : Int) - 1 = (k : Int) := by omega
        by_cases hlt : nth xs (k + 1) < nth xs k
        · have hr := hid (ascB_not hkl hlt)
          have hd := hid (decide_eq_true hlt)
          go_wp2_with (go_quiet ((go_at_call 92; exact Calls.quiet_of_same ((less_any _ _ _).mono fun _ _ ⟨h1, h2⟩ => ⟨h1, h2.symm⟩))))
          go_ret
          exact ⟨ret_bool hr.out.symm, Ext.trans hxw inferInstance⟩
        · have hno2 := hid (show ∀ j, k ≤ j → j + 1 < xs.length → nth xs j ≤ nth xs (j + 1) from fun j h1 h2 => by
            by_cases e : j = k
            · rw [e]; omega
            · exact hno.out j (by omega) h2)
          have hd := hid (decide_eq_false hlt)
          go_wp2_with (go_quiet ((go_at_call 92; exact Calls.quiet_of_same ((less_any _ _ _).mono fun _ _ ⟨h1, h2⟩ => ⟨h1, h2.symm⟩))))
          go_roundw
          case rel => exact ⟨k, .inl (by omega), .inl ⟨by go_num, hpos⟩, hno2.out, Ext.trans hxw inferInstance⟩
          case measure => simp [intOf]
    · have hr := hid (show ascB xs = true from ascB_of fun j hj => by omega)
      go_wp2
      go_ret
      exact ⟨ret_bool hr.out.symm, hxw⟩

set_option maxHeartbeats 800000 in
set_option maxRecDepth 100000 in
theorem isConfig_any {v va : Value} {M : List (List Int)} {a : List Int} {w0 w : World} [Ext w0 w] (hm : IsMet w0 v M) (ha : IsInts w0 va a) (h17 : M.length ≤ 17592186044415) :
    Calls Tryz.prog 39 #[v, va] w fun e w' => e = .returned (.bool (cfgB M.length a)) ∧ Ext w w' := by
  have ha' := ha
  obtain ⟨v1, rfl, hR⟩ := hm
  obtain ⟨a1, c1, rfl, l1⟩ := hR.form
  obtain ⟨da, ma, rfl, la⟩ := ha.form
  have x0 : (w.alloc (.cells #[.slice a1 M.length c1] 26)).cell? ⟨w.heap.size, 0, none⟩ = some (.slice a1 M.length c1) := by go_simp
  obtain ⟨RES, hRES⟩ : ∃ b, b = cfgB M.length a := ⟨_, rfl⟩
  rw [← hRES]
  replace hRES := hid hRES
  cases hc0 : inB a.length 1 3 with
  | false =>
    replace hc0 := hid hc0
    have hr := hid (show RES = false by rw [hRES.out]; simp [cfgB, hc0.out])
    go_enter Tryz.func39, Tryz.ntmps39
    go_wp2_with fail
    with_reducible refine (within_any _ _ _ _).mono ?_
    rw [hc0.out]
    rintro e wx ⟨rfl, rfl⟩
    go_wp2_with fail
    go_ret
    exact ⟨ret_bool hr.out.symm, inferInstance⟩
  | true =>
    replace hc0 := hid hc0
    cases hc1 : belowB M.length a with
    | false =>
      replace hc1 := hid hc1
      have hr := hid (show RES = false by rw [hRES.out]; simp [cfgB, hc0.out, hc1.out])
      go_enter Tryz.func39, Tryz.ntmps39
      go_wp2_with fail
      with_reducible refine (within_any _ _ _ _).mono ?_
      rw [hc0.out]
      rintro e wx ⟨rfl, rfl⟩
      go_wp2_with fail
      with_reducible refine (areBelow_any (w0 := w0) ha' (by omega) (by omega)).mono ?_
      rw [hc1.out]
      rintro e w2 ⟨rfl, hb2⟩
      have g2 : Ext w w2 := Ext.trans inferInstance hb2
      have e02 : Ext w0 w2 := Ext.trans ‹Ext w0 w› g2
      go_wp2_with fail
      go_ret
      exact ⟨ret_bool hr.out.symm, g2⟩
    | true =>
      replace hc1 := hid hc1
      cases hc2 : ascB a with
      | false =>
        replace hc2 := hid hc2
        have hr := hid (show RES = false by rw [hRES.out]; simp [cfgB, hc0.out, hc1.out, hc2.out])
        go_enter Tryz.func39, Tryz.ntmps39
        go_wp2_with fail
        with_reducible refine (within_any _ _ _ _).mono ?_
        rw [hc0.out]
        rintro e wx ⟨rfl, rfl⟩
        go_wp2_with fail
        with_reducible refine (areBelow_any (w0 := w0) ha' (by omega) (by omega)).mono ?_
        rw [hc1.out]
        rintro e w2 ⟨rfl, hb2⟩
        have g2 : Ext w w2 := Ext.trans inferInstance hb2
        have e02 : Ext w0 w2 := Ext.trans ‹Ext w0 w› g2
        go_wp2_with fail
        with_reducible refine (isSorted_any (w0 := w0) ha').mono ?_
        rw [hc2.out]
        rintro e w3 ⟨rfl, hb3⟩
        have g3 : Ext w w3 := Ext.trans g2 hb3
        have e03 : Ext w0 w3 := Ext.trans ‹Ext w0 w› g3
        go_wp2_with fail
        go_ret
        exact ⟨ret_bool hr.out.symm, g3⟩
      | true =>
        replace hc2 := hid hc2
        have hr := hid (show RES = true by rw [hRES.out]; simp [cfgB, hc0.out, hc1.out, hc2.out])
        go_enter Tryz.func39, Tryz.ntmps39
        go_wp2_with fail
        with_reducible refine (within_any _ _ _ _).mono ?_
        rw [hc0.out]
        rintro e wx ⟨rfl, rfl⟩
        go_wp2_with fail
        with_reducible refine (areBelow_any (w0 := w0) ha' (by omega) (by omega)).mono ?_
        rw [hc1.out]
        rintro e w2 ⟨rfl, hb2⟩
        have g2 : Ext w w2 := Ext.trans inferInstance hb2
        have e02 : Ext w0 w2 := Ext.trans ‹Ext w0 w› g2
        go_wp2_with fail
        with_reducible refine (isSorted_any (w0 := w0) ha').mono ?_
        rw [hc2.out]
        rintro e w3 ⟨rfl, hb3⟩
        have g3 : Ext w w3 := Ext.trans g2 hb3
        have e03 : Ext w0 w3 := Ext.trans ‹Ext w0 w› g3
        go_wp2_with fail
        go_ret
        exact ⟨ret_bool hr.out.symm, g3⟩
end Go.Proofs.YtllfchcocgdcjaaGreat

/- Tests on configurations and sequences of servers, the reference's; costs of moves. Written by srv.py. -/
namespace Go.Proofs.YtllfchcocgdcjaaGreat
open Go.RowKit

set_option maxHeartbeats 800000 in
set_option maxRecDepth 100000 in
theorem l6List_any {v : Value} {X : List Int} {n : Int} {w0 w : World} [Ext w0 w] (hX : IsInts w0 v X) (hn : 0 ≤ n ∧ n ≤ 17592186044415) :
    Calls Tryz.prog 47 #[.int .i64 n, v] w fun e w' => e = .returned (.bool (belowB n X)) ∧ Ext w w' := by
  obtain ⟨a, c, rfl, la⟩ := hX.form
  go_enter Tryz.func47, Tryz.ntmps47
  go_wp2
  go_loop [5] (fun i => ∃ k : Nat, k ≤ X.length ∧ i = .int .i64 k ∧ Hid (∀ j, j < k → inB (nth X j) 0 (n - 1) = true)) (fun i => X.length - (intOf i).toNat)
  case atStart => exact ⟨0, by omega, rfl, by intro j hj; omega⟩
  case round =>
    obtain ⟨k, hk, rfl, hno⟩ := hrel
    by_cases hlt : k < X.length
    · obtain ⟨b, o, rfl, hc⟩ := hX.at (w' := w) hlt
      cases hb : inB (nth X k) 0 (n - 1) with
      | false =>
        have hr := hid (show belowB n X = false from belowB_not hlt hb)
        replace hb := hid hb
        go_wp2_with fail
        with_reducible refine (l1In_any _ _ _ _).mono ?_
        rw [hb.out]
        rintro e w1 ⟨rfl, rfl⟩
        go_wp2_with fail
        go_ret
        exact ⟨ret_bool hr.out.symm, Ext.refl _⟩
      | true =>
        replace hb := hid hb
        go_wp2_with fail
        with_reducible refine (l1In_any _ _ _ _).mono ?_
        rw [hb.out]
        rintro e w1 ⟨rfl, rfl⟩
        go_wp2_with fail
        go_round
        case rel =>
          refine ⟨k + 1, by omega, by go_num, fun j hj => ?_⟩
          by_cases e : j = k
          · rw [e]; exact hb.out
          · exact hno.out j (by omega)
        case measure => simp [intOf]; omega
    · have hr := hid (show belowB n X = true from belowB_of fun j hj => hno.out j (by omega))
      go_wp2
      go_ret
      exact ⟨ret_bool hr.out.symm, Ext.refl _⟩
set_option maxHeartbeats 800000 in
set_option maxRecDepth 100000 in
theorem l6Ascending_any {v : Value} {xs : List Int} {w0 w : World} [Ext w0 w] (hx : IsInts w0 v xs) :
    Calls Tryz.prog 76 #[v] w fun e w' => e = .returned (.bool (ascB xs)) ∧ Ext w w' := by
  obtain ⟨a, c, rfl, la⟩ := hx.form
  go_enter Tryz.func76, Tryz.ntmps76
  go_wp2
  go_loopw [3] (fun i wr => ∃ k : Nat, (k < xs.length ∨ (k = 0)) ∧ i = .int .i64 ((k : Int) + 1) ∧ Hid (∀ j, j < k → nth xs j ≤ nth xs (j + 1)) ∧ Ext w wr) (fun i _ => xs.length - (intOf i).toNat)
  case atStart => exact ⟨0, .inr rfl, rfl, fun j hj => by omega, Ext.refl _⟩
  case round =>
    obtain ⟨k, hk, rfl, hno, hxw⟩ := hrel
    by_cases hlt : k + 1 < xs.length
    · have e0 : Ext w0 wr := Ext.trans ‹Ext w0 w› hxw
      obtain ⟨b, o, rfl, hc1⟩ := hx.at (w' := wr) hlt
      obtain ⟨b', o', hq, hc2⟩ := hx.at (w' := wr) (k := k) (by omega)
      cases hq
      have hk2 : k < xs.length := by omega
      by_cases hg : nth xs (k + 1) < nth xs k
      · have hr := hid (ascB_not hlt hg)
        have hd : decide (nth xs (k + 1) < nth xs k) = true := decide_eq_true hg
        go_wp2_with (go_quiet (fail))
        go_ret
        exact ⟨ret_bool hr.out.symm, Ext.trans hxw inferInstance⟩
      · have hno2 := hid (show ∀ j, j < k + 1 → nth xs j ≤ nth xs (j + 1) from fun j h1 => by
          by_cases e : j = k
          · rw [e]; omega
          · exact hno.out j (by omega))
        have hd : decide (nth xs (k + 1) < nth xs k) = false := decide_eq_false hg
        go_wp2_with (go_quiet (fail))
        go_roundw
        case rel => exact ⟨k + 1, .inl hlt, by go_num, hno2.out, Ext.trans hxw inferInstance⟩
        case measure => simp [intOf]; omega
    · have hr := hid (show ascB xs = true from ascB_of fun j hj => hno.out j (by omega))
      go_wp2
      go_ret
      exact ⟨ret_bool hr.out.symm, hxw⟩

set_option maxHeartbeats 800000 in
set_option maxRecDepth 100000 in
theorem l6Config_any {va : Value} {n : Int} {a : List Int} {w0 w : World} [Ext w0 w] (ha : IsInts w0 va a) (hn : 0 ≤ n ∧ n ≤ 17592186044415) :
    Calls Tryz.prog 46 #[.int .i64 n, va] w fun e w' => e = .returned (.bool (cfgB n a)) ∧ Ext w w' := by
  have ha' := ha
  obtain ⟨da, ma, rfl, la⟩ := ha.form
  obtain ⟨RES, hRES⟩ : ∃ b, b = cfgB n a := ⟨_, rfl⟩
  rw [← hRES]
  replace hRES := hid hRES
  cases hc0 : inB a.length 1 3 with
  | false =>
    replace hc0 := hid hc0
    have hr := hid (show RES = false by rw [hRES.out]; simp [cfgB, hc0.out])
    go_enter Tryz.func46, Tryz.ntmps46
    go_wp2_with fail
    with_reducible refine (l1In_any _ _ _ _).mono ?_
    rw [hc0.out]
    rintro e wx ⟨rfl, rfl⟩
    go_wp2_with fail
    go_ret
    exact ⟨ret_bool hr.out.symm, inferInstance⟩
  | true =>
    replace hc0 := hid hc0
    cases hc1 : belowB n a with
    | false =>
      replace hc1 := hid hc1
      have hr := hid (show RES = false by rw [hRES.out]; simp [cfgB, hc0.out, hc1.out])
      go_enter Tryz.func46, Tryz.ntmps46
      go_wp2_with fail
      with_reducible refine (l1In_any _ _ _ _).mono ?_
      rw [hc0.out]
      rintro e wx ⟨rfl, rfl⟩
      go_wp2_with fail
      with_reducible refine (l6List_any (w0 := w0) ha' hn).mono ?_
      rw [hc1.out]
      rintro e w2 ⟨rfl, hb2⟩
      have g2 : Ext w w2 := Ext.trans inferInstance hb2
      have e02 : Ext w0 w2 := Ext.trans ‹Ext w0 w› g2
      go_wp2_with fail
      go_ret
      exact ⟨ret_bool hr.out.symm, g2⟩
    | true =>
      replace hc1 := hid hc1
      cases hc2 : ascB a with
      | false =>
        replace hc2 := hid hc2
        have hr := hid (show RES = false by rw [hRES.out]; simp [cfgB, hc0.out, hc1.out, hc2.out])
        go_enter Tryz.func46, Tryz.ntmps46
        go_wp2_with fail
        with_reducible refine (l1In_any _ _ _ _).mono ?_
        rw [hc0.out]
        rintro e wx ⟨rfl, rfl⟩
        go_wp2_with fail
        with_reducible refine (l6List_any (w0 := w0) ha' hn).mono ?_
        rw [hc1.out]
        rintro e w2 ⟨rfl, hb2⟩
        have g2 : Ext w w2 := Ext.trans inferInstance hb2
        have e02 : Ext w0 w2 := Ext.trans ‹Ext w0 w› g2
        go_wp2_with fail
        with_reducible refine (l6Ascending_any (w0 := w0) ha').mono ?_
        rw [hc2.out]
        rintro e w3 ⟨rfl, hb3⟩
        have g3 : Ext w w3 := Ext.trans g2 hb3
        have e03 : Ext w0 w3 := Ext.trans ‹Ext w0 w› g3
        go_wp2_with fail
        go_ret
        exact ⟨ret_bool hr.out.symm, g3⟩
      | true =>
        replace hc2 := hid hc2
        have hr := hid (show RES = true by rw [hRES.out]; simp [cfgB, hc0.out, hc1.out, hc2.out])
        go_enter Tryz.func46, Tryz.ntmps46
        go_wp2_with fail
        with_reducible refine (l1In_any _ _ _ _).mono ?_
        rw [hc0.out]
        rintro e wx ⟨rfl, rfl⟩
        go_wp2_with fail
        with_reducible refine (l6List_any (w0 := w0) ha' hn).mono ?_
        rw [hc1.out]
        rintro e w2 ⟨rfl, hb2⟩
        have g2 : Ext w w2 := Ext.trans inferInstance hb2
        have e02 : Ext w0 w2 := Ext.trans ‹Ext w0 w› g2
        go_wp2_with fail
        with_reducible refine (l6Ascending_any (w0 := w0) ha').mono ?_
        rw [hc2.out]
        rintro e w3 ⟨rfl, hb3⟩
        have g3 : Ext w w3 := Ext.trans g2 hb3
        have e03 : Ext w0 w3 := Ext.trans ‹Ext w0 w› g3
        go_wp2_with fail
        go_ret
        exact ⟨ret_bool hr.out.symm, g3⟩

set_option maxHeartbeats 1600000 in
set_option maxRecDepth 100000 in
theorem isServed_any {v va vX : Value} {M : List (List Int)} {a X : List Int} {w0 w : World} [Ext w0 w] (hm : IsMet w0 v M) (ha : IsInts w0 va a) (hX : IsInts w0 vX X) :
    Calls Tryz.prog 18 #[v, va, vX] w fun e w' => e = .returned (.bool (srvB M a X)) ∧ Ext w w' := by
  have ha' := ha
  have hX' := hX
  have hm' := hm
  obtain ⟨v1, rfl, hR⟩ := hm
  obtain ⟨a1, c1, rfl, l1⟩ := hR.form
  obtain ⟨da, ma, rfl, la⟩ := ha.form
  obtain ⟨dX, mX, rfl, lX⟩ := hX.form
  have x0 : (w.alloc (.cells #[.slice a1 M.length c1] 26)).cell? ⟨w.heap.size, 0, none⟩ = some (.slice a1 M.length c1) := by go_simp
  obtain ⟨RES, hRES⟩ : ∃ b, b = srvB M a X := ⟨_, rfl⟩
  rw [← hRES]
  replace hRES := hid hRES
  cases hc0 : metB M with
  | false =>
    replace hc0 := hid hc0
    have hr := hid (show RES = false by rw [hRES.out]; simp [srvB, hc0.out])
    go_enter Tryz.func18, Tryz.ntmps18
    go_wp2_with fail
    with_reducible refine (IsMetric_any (w0 := w0) hm').mono ?_
    rw [hc0.out]
    rintro e w1 ⟨rfl, hb1⟩
    have x1 : w1.cell? ⟨w.heap.size, 0, none⟩ = some (.slice a1 M.length c1) := hb1.cell (by go_simp)
    have g1 : Ext w w1 := Ext.trans inferInstance hb1
    have e01 : Ext w0 w1 := Ext.trans ‹Ext w0 w› g1
    go_wp2_with fail
    go_ret
    exact ⟨ret_bool hr.out.symm, g1⟩
  | true =>
    replace hc0 := hid hc0
    cases hc1 : cfgB M.length a with
    | false =>
      replace hc1 := hid hc1
      have hr := hid (show RES = false by rw [hRES.out]; simp [srvB, hc0.out, hc1.out])
      go_enter Tryz.func18, Tryz.ntmps18
      go_wp2_with fail
      with_reducible refine (IsMetric_any (w0 := w0) hm').mono ?_
      rw [hc0.out]
      rintro e w1 ⟨rfl, hb1⟩
      have x1 : w1.cell? ⟨w.heap.size, 0, none⟩ = some (.slice a1 M.length c1) := hb1.cell (by go_simp)
      have g1 : Ext w w1 := Ext.trans inferInstance hb1
      have e01 : Ext w0 w1 := Ext.trans ‹Ext w0 w› g1
      go_wp2_with fail
      with_reducible refine (isConfig_any (w0 := w0) hm' ha' (by omega)).mono ?_
      rw [hc1.out]
      rintro e w2 ⟨rfl, hb2⟩
      have x2 := hb2.cell x1
      have g2 : Ext w w2 := Ext.trans g1 hb2
      have e02 : Ext w0 w2 := Ext.trans ‹Ext w0 w› g2
      go_wp2_with fail
      go_ret
      exact ⟨ret_bool hr.out.symm, g2⟩
    | true =>
      replace hc1 := hid hc1
      cases hc2 : decide (X.length ≤ 60) with
      | false =>
        have hi2 : decide ((X.length : Int) ≤ 60) = false := by (simp at hc2 ⊢; omega)
        replace hc2 := hid hc2
        have hr := hid (show RES = false by rw [hRES.out]; simp [srvB, hc0.out, hc1.out, hc2.out])
        go_enter Tryz.func18, Tryz.ntmps18
        go_wp2_with fail
        with_reducible refine (IsMetric_any (w0 := w0) hm').mono ?_
        rw [hc0.out]
        rintro e w1 ⟨rfl, hb1⟩
        have x1 : w1.cell? ⟨w.heap.size, 0, none⟩ = some (.slice a1 M.length c1) := hb1.cell (by go_simp)
        have g1 : Ext w w1 := Ext.trans inferInstance hb1
        have e01 : Ext w0 w1 := Ext.trans ‹Ext w0 w› g1
        go_wp2_with fail
        with_reducible refine (isConfig_any (w0 := w0) hm' ha' (by omega)).mono ?_
        rw [hc1.out]
        rintro e w2 ⟨rfl, hb2⟩
        have x2 := hb2.cell x1
        have g2 : Ext w w2 := Ext.trans g1 hb2
        have e02 : Ext w0 w2 := Ext.trans ‹Ext w0 w› g2
        go_wp2_with fail
        go_ret
        exact ⟨ret_bool hr.out.symm, g2⟩
      | true =>
        have hi2 : decide ((X.length : Int) ≤ 60) = true := by (simp at hc2 ⊢; omega)
        replace hc2 := hid hc2
        cases hc3 : belowB M.length X with
        | false =>
          replace hc3 := hid hc3
          have hr := hid (show RES = false by rw [hRES.out]; simp [srvB, hc0.out, hc1.out, hc2.out, hc3.out])
          go_enter Tryz.func18, Tryz.ntmps18
          go_wp2_with fail
          with_reducible refine (IsMetric_any (w0 := w0) hm').mono ?_
          rw [hc0.out]
          rintro e w1 ⟨rfl, hb1⟩
          have x1 : w1.cell? ⟨w.heap.size, 0, none⟩ = some (.slice a1 M.length c1) := hb1.cell (by go_simp)
          have g1 : Ext w w1 := Ext.trans inferInstance hb1
          have e01 : Ext w0 w1 := Ext.trans ‹Ext w0 w› g1
          go_wp2_with fail
          with_reducible refine (isConfig_any (w0 := w0) hm' ha' (by omega)).mono ?_
          rw [hc1.out]
          rintro e w2 ⟨rfl, hb2⟩
          have x2 := hb2.cell x1
          have g2 : Ext w w2 := Ext.trans g1 hb2
          have e02 : Ext w0 w2 := Ext.trans ‹Ext w0 w› g2
          go_wp2_with fail
          with_reducible refine (areBelow_any (w0 := w0) hX' (by omega) (by omega)).mono ?_
          rw [hc3.out]
          rintro e w3 ⟨rfl, hb3⟩
          have x3 := hb3.cell x2
          have g3 : Ext w w3 := Ext.trans g2 hb3
          have e03 : Ext w0 w3 := Ext.trans ‹Ext w0 w› g3
          go_wp2_with fail
          go_ret
          exact ⟨ret_bool hr.out.symm, g3⟩
        | true =>
          replace hc3 := hid hc3
          have hr := hid (show RES = true by rw [hRES.out]; simp [srvB, hc0.out, hc1.out, hc2.out, hc3.out])
          go_enter Tryz.func18, Tryz.ntmps18
          go_wp2_with fail
          with_reducible refine (IsMetric_any (w0 := w0) hm').mono ?_
          rw [hc0.out]
          rintro e w1 ⟨rfl, hb1⟩
          have x1 : w1.cell? ⟨w.heap.size, 0, none⟩ = some (.slice a1 M.length c1) := hb1.cell (by go_simp)
          have g1 : Ext w w1 := Ext.trans inferInstance hb1
          have e01 : Ext w0 w1 := Ext.trans ‹Ext w0 w› g1
          go_wp2_with fail
          with_reducible refine (isConfig_any (w0 := w0) hm' ha' (by omega)).mono ?_
          rw [hc1.out]
          rintro e w2 ⟨rfl, hb2⟩
          have x2 := hb2.cell x1
          have g2 : Ext w w2 := Ext.trans g1 hb2
          have e02 : Ext w0 w2 := Ext.trans ‹Ext w0 w› g2
          go_wp2_with fail
          with_reducible refine (areBelow_any (w0 := w0) hX' (by omega) (by omega)).mono ?_
          rw [hc3.out]
          rintro e w3 ⟨rfl, hb3⟩
          have x3 := hb3.cell x2
          have g3 : Ext w w3 := Ext.trans g2 hb3
          have e03 : Ext w0 w3 := Ext.trans ‹Ext w0 w› g3
          go_wp2_with fail
          go_ret
          exact ⟨ret_bool hr.out.symm, g3⟩

set_option maxHeartbeats 1600000 in
set_option maxRecDepth 100000 in
theorem l6Start_any {v va vX : Value} {M : List (List Int)} {a X : List Int} {w0 w : World} [Ext w0 w] (hm : IsMet w0 v M) (ha : IsInts w0 va a) (hX : IsInts w0 vX X) :
    Calls Tryz.prog 22 #[v, va, vX] w fun e w' => e = .returned (.bool (srvB M a X)) ∧ Ext w w' := by
  have ha' := ha
  have hX' := hX
  have hm' := hm
  obtain ⟨v1, rfl, hR⟩ := hm
  obtain ⟨a1, c1, rfl, l1⟩ := hR.form
  obtain ⟨da, ma, rfl, la⟩ := ha.form
  obtain ⟨dX, mX, rfl, lX⟩ := hX.form
  have x0 : (w.alloc (.cells #[.slice a1 M.length c1] 26)).cell? ⟨w.heap.size, 0, none⟩ = some (.slice a1 M.length c1) := by go_simp
  obtain ⟨RES, hRES⟩ : ∃ b, b = srvB M a X := ⟨_, rfl⟩
  rw [← hRES]
  replace hRES := hid hRES
  cases hc0 : metB M with
  | false =>
    replace hc0 := hid hc0
    have hr := hid (show RES = false by rw [hRES.out]; simp [srvB, hc0.out])
    go_enter Tryz.func22, Tryz.ntmps22
    go_wp2_with fail
    with_reducible refine (l6Good_any (w0 := w0) hm').mono ?_
    rw [hc0.out]
    rintro e w1 ⟨rfl, hb1⟩
    have x1 : w1.cell? ⟨w.heap.size, 0, none⟩ = some (.slice a1 M.length c1) := hb1.cell (by go_simp)
    have g1 : Ext w w1 := Ext.trans inferInstance hb1
    have e01 : Ext w0 w1 := Ext.trans ‹Ext w0 w› g1
    go_wp2_with fail
    go_ret
    exact ⟨ret_bool hr.out.symm, g1⟩
  | true =>
    replace hc0 := hid hc0
    cases hc1 : cfgB M.length a with
    | false =>
      replace hc1 := hid hc1
      have hr := hid (show RES = false by rw [hRES.out]; simp [srvB, hc0.out, hc1.out])
      go_enter Tryz.func22, Tryz.ntmps22
      go_wp2_with fail
      with_reducible refine (l6Good_any (w0 := w0) hm').mono ?_
      rw [hc0.out]
      rintro e w1 ⟨rfl, hb1⟩
      have x1 : w1.cell? ⟨w.heap.size, 0, none⟩ = some (.slice a1 M.length c1) := hb1.cell (by go_simp)
      have g1 : Ext w w1 := Ext.trans inferInstance hb1
      have e01 : Ext w0 w1 := Ext.trans ‹Ext w0 w› g1
      go_wp2_with fail
      with_reducible refine (l6Config_any (w0 := w0) ha' (by omega)).mono ?_
      rw [hc1.out]
      rintro e w2 ⟨rfl, hb2⟩
      have x2 := hb2.cell x1
      have g2 : Ext w w2 := Ext.trans g1 hb2
      have e02 : Ext w0 w2 := Ext.trans ‹Ext w0 w› g2
      go_wp2_with fail
      go_ret
      exact ⟨ret_bool hr.out.symm, g2⟩
    | true =>
      replace hc1 := hid hc1
      cases hc2 : decide (X.length ≤ 60) with
      | false =>
        have hi2 : decide ((X.length : Int) ≤ 60) = false := by (simp at hc2 ⊢; omega)
        replace hc2 := hid hc2
        have hr := hid (show RES = false by rw [hRES.out]; simp [srvB, hc0.out, hc1.out, hc2.out])
        go_enter Tryz.func22, Tryz.ntmps22
        go_wp2_with fail
        with_reducible refine (l6Good_any (w0 := w0) hm').mono ?_
        rw [hc0.out]
        rintro e w1 ⟨rfl, hb1⟩
        have x1 : w1.cell? ⟨w.heap.size, 0, none⟩ = some (.slice a1 M.length c1) := hb1.cell (by go_simp)
        have g1 : Ext w w1 := Ext.trans inferInstance hb1
        have e01 : Ext w0 w1 := Ext.trans ‹Ext w0 w› g1
        go_wp2_with fail
        with_reducible refine (l6Config_any (w0 := w0) ha' (by omega)).mono ?_
        rw [hc1.out]
        rintro e w2 ⟨rfl, hb2⟩
        have x2 := hb2.cell x1
        have g2 : Ext w w2 := Ext.trans g1 hb2
        have e02 : Ext w0 w2 := Ext.trans ‹Ext w0 w› g2
        go_wp2_with fail
        go_ret
        exact ⟨ret_bool hr.out.symm, g2⟩
      | true =>
        have hi2 : decide ((X.length : Int) ≤ 60) = true := by (simp at hc2 ⊢; omega)
        replace hc2 := hid hc2
        cases hc3 : belowB M.length X with
        | false =>
          replace hc3 := hid hc3
          have hr := hid (show RES = false by rw [hRES.out]; simp [srvB, hc0.out, hc1.out, hc2.out, hc3.out])
          go_enter Tryz.func22, Tryz.ntmps22
          go_wp2_with fail
          with_reducible refine (l6Good_any (w0 := w0) hm').mono ?_
          rw [hc0.out]
          rintro e w1 ⟨rfl, hb1⟩
          have x1 : w1.cell? ⟨w.heap.size, 0, none⟩ = some (.slice a1 M.length c1) := hb1.cell (by go_simp)
          have g1 : Ext w w1 := Ext.trans inferInstance hb1
          have e01 : Ext w0 w1 := Ext.trans ‹Ext w0 w› g1
          go_wp2_with fail
          with_reducible refine (l6Config_any (w0 := w0) ha' (by omega)).mono ?_
          rw [hc1.out]
          rintro e w2 ⟨rfl, hb2⟩
          have x2 := hb2.cell x1
          have g2 : Ext w w2 := Ext.trans g1 hb2
          have e02 : Ext w0 w2 := Ext.trans ‹Ext w0 w› g2
          go_wp2_with fail
          with_reducible refine (l6List_any (w0 := w0) hX' (by omega)).mono ?_
          rw [hc3.out]
          rintro e w3 ⟨rfl, hb3⟩
          have x3 := hb3.cell x2
          have g3 : Ext w w3 := Ext.trans g2 hb3
          have e03 : Ext w0 w3 := Ext.trans ‹Ext w0 w› g3
          go_wp2_with fail
          go_ret
          exact ⟨ret_bool hr.out.symm, g3⟩
        | true =>
          replace hc3 := hid hc3
          have hr := hid (show RES = true by rw [hRES.out]; simp [srvB, hc0.out, hc1.out, hc2.out, hc3.out])
          go_enter Tryz.func22, Tryz.ntmps22
          go_wp2_with fail
          with_reducible refine (l6Good_any (w0 := w0) hm').mono ?_
          rw [hc0.out]
          rintro e w1 ⟨rfl, hb1⟩
          have x1 : w1.cell? ⟨w.heap.size, 0, none⟩ = some (.slice a1 M.length c1) := hb1.cell (by go_simp)
          have g1 : Ext w w1 := Ext.trans inferInstance hb1
          have e01 : Ext w0 w1 := Ext.trans ‹Ext w0 w› g1
          go_wp2_with fail
          with_reducible refine (l6Config_any (w0 := w0) ha' (by omega)).mono ?_
          rw [hc1.out]
          rintro e w2 ⟨rfl, hb2⟩
          have x2 := hb2.cell x1
          have g2 : Ext w w2 := Ext.trans g1 hb2
          have e02 : Ext w0 w2 := Ext.trans ‹Ext w0 w› g2
          go_wp2_with fail
          with_reducible refine (l6List_any (w0 := w0) hX' (by omega)).mono ?_
          rw [hc3.out]
          rintro e w3 ⟨rfl, hb3⟩
          have x3 := hb3.cell x2
          have g3 : Ext w w3 := Ext.trans g2 hb3
          have e03 : Ext w0 w3 := Ext.trans ‹Ext w0 w› g3
          go_wp2_with fail
          go_ret
          exact ⟨ret_bool hr.out.symm, g3⟩

set_option maxHeartbeats 400000 in
theorem moveCost_any {v va vb : Value} {M : List (List Int)} {a b : List Int} {w0 w : World} [Ext w0 w] (hm : IsMet w0 v M) (hM : metB M = true) (ha : IsInts w0 va a) (hb : IsInts w0 vb b)
    (hpa : Pts M.length a) (hpb : Pts M.length b) (hl : a.length = b.length) (h3 : a.length ≤ 3) :
    Calls Tryz.prog 84 #[v, va, vb] w fun e w' => e = .returned (.int .i64 (mvC M a b)) ∧ Ext w w' := by
  have hm' := hm
  have ha' := ha
  have hb' := hb
  obtain ⟨v1, rfl, hR⟩ := hm
  obtain ⟨a1, c1, rfl, l1⟩ := hR.form
  obtain ⟨da, ma, rfl, la⟩ := ha.form
  obtain ⟨db, mb, rfl, lb⟩ := hb.form
  have hM' := hid hM
  have hl' := hid hl
  clear hM hl
  go_enter Tryz.func84, Tryz.ntmps84
  go_wp2_with fail
  with_reducible refine (matched_any (w0 := w0) hm' hM'.out ha' hb' hpa hpb hl'.out h3).mono ?_
  rintro e w1 ⟨u, rfl, _, e1⟩
  go_wp2_with fail
  go_ret
  exact ⟨rfl, Ext.trans inferInstance e1⟩

end Go.Proofs.YtllfchcocgdcjaaGreat

/- Comparing lists of numbers; the place of a configuration. -/
namespace Go.Proofs.YtllfchcocgdcjaaGreat
open Go.RowKit

--PURE
def lexC : List Int → List Int → Int
  | [], [] => 0
  | [], _ :: _ => -1
  | _ :: _, [] => 1
  | x :: a, y :: b => if x < y then -1 else if y < x then 1 else lexC a b
theorem lexC_self : ∀ a : List Int, lexC a a = 0
  | [] => rfl
  | x :: a => by simp [lexC, lexC_self a]
theorem lexC_in : ∀ a b : List Int, -1 ≤ lexC a b ∧ lexC a b ≤ 1
  | [], [] => by simp [lexC]
  | [], _ :: _ => by simp [lexC]
  | _ :: _, [] => by simp [lexC]
  | x :: a, y :: b => by
    rw [lexC]
    split
    · omega
    · split
      · omega
      · exact lexC_in a b
theorem lexC_zero : ∀ {a b : List Int}, lexC a b = 0 → a = b
  | [], [], _ => rfl
  | [], _ :: _, h => by simp [lexC] at h
  | _ :: _, [], h => by simp [lexC] at h
  | x :: a, y :: b, h => by
    rw [lexC] at h
    split at h
    · omega
    · split at h
      · omega
      · rw [show x = y by omega, lexC_zero h]
theorem lexC_anti : ∀ a b : List Int, lexC b a = - lexC a b
  | [], [] => rfl
  | [], _ :: _ => rfl
  | _ :: _, [] => rfl
  | x :: a, y :: b => by
    rw [lexC, lexC]
    by_cases h1 : x < y
    · rw [if_neg (by omega), if_pos h1, if_pos h1]; rfl
    · by_cases h2 : y < x
      · rw [if_pos h2, if_neg h1, if_pos h2]
      · rw [if_neg h2, if_neg h1, if_neg h1, if_neg h2]; exact lexC_anti a b
theorem lexC_trans : ∀ {a b c : List Int}, lexC a b < 0 → lexC b c < 0 → lexC a c < 0
  | [], [], _, h, _ => by simp [lexC] at h
  | [], _ :: _, [], _, h => by simp [lexC] at h
  | [], _ :: _, _ :: _, _, _ => by simp [lexC]
  | _ :: _, [], _, h, _ => by simp [lexC] at h
  | _ :: _, _ :: _, [], _, h => by simp [lexC] at h
  | x :: a, y :: b, z :: c, h1, h2 => by
    rw [lexC] at h1 h2 ⊢
    split at h1
    · split at h2
      · rw [if_pos (by omega)]; omega
      · split at h2
        · omega
        · rw [if_pos (by omega)]; omega
    · split at h1
      · omega
      · split at h2
        · rw [if_pos (by omega)]; omega
        · split at h2
          · omega
          · rw [if_neg (by omega), if_neg (by omega)]
            exact lexC_trans h1 h2
/-- the configurations ascend -/
theorem confs_asc (n : Nat) : ∀ k f, (confs n k f).Pairwise (fun a b => lexC a b < 0)
  | 0, _ => by simp [confs]
  | k + 1, f => by
    rw [confs]
    refine pairwise_flat (fun x _ => ?_) ?_
    · rw [List.pairwise_map]
      exact (confs_asc n k x).imp (fun h => by simpa [lexC] using h)
    · refine (List.pairwise_lt_range' (step := 1)).imp (fun {x y} hxy u hu v hv => ?_)
      obtain ⟨c, _, rfl⟩ := List.mem_map.1 hu
      obtain ⟨d, _, rfl⟩ := List.mem_map.1 hv
      rw [lexC, if_pos (by omega)]
      omega
/-- the place of a list in a list of them -/
def atR (P : List (List Int)) (c : List Int) : Nat := P.idxOf c
theorem atR_lt {P : List (List Int)} {c : List Int} (h : c ∈ P) : atR P c < P.length ∧ row P (atR P c) = c := by
  have hlt : P.idxOf c < P.length := List.idxOf_lt_length_of_mem h
  exact ⟨hlt, by simp [row, atR, hlt]⟩
theorem row_get {P : List (List Int)} {q : Nat} (hq : q < P.length) : row P q = P[q] := by simp [row, hq]
theorem atR_row {n k f j : Nat} (h : j < (confs n k f).length) : atR (confs n k f) (row (confs n k f) j) = j := by
  obtain ⟨h1, h2⟩ := atR_lt (row_mem h)
  have hn := confs_nodup n k f
  rw [List.nodup_iff_pairwise_ne, List.pairwise_iff_getElem] at hn
  generalize atR (confs n k f) (row (confs n k f) j) = q at *
  rw [row_get h1, row_get h] at h2
  rcases Nat.lt_trichotomy q j with h3 | h3 | h3
  · exact absurd h2 (hn _ _ h1 h h3)
  · exact h3
  · exact absurd h2.symm (hn _ _ h h1 h3)
theorem asc_row {P : List (List Int)} (h : P.Pairwise (fun a b => lexC a b < 0)) {i j : Nat} (hij : i < j) (hj : j < P.length) : lexC (row P i) (row P j) < 0 := by
  rw [List.pairwise_iff_getElem] at h
  have := h i j (by omega) hj hij
  simpa [row, hj, show i < P.length by omega] using this
theorem drop_nth {X : List Int} {k : Nat} (h : k < X.length) : X.drop k = nth X k :: X.drop (k + 1) := by
  rw [List.drop_eq_getElem_cons h]; simp [nth, h]
def cmpI (x y : Int) : Int := if x < y then -1 else if y < x then 1 else 0
theorem lexC_step {a b : List Int} {k : Nat} (ha : k < a.length) (hb : k < b.length) : lexC (a.drop k) (b.drop k) = if cmpI (nth a k) (nth b k) ≠ 0 then cmpI (nth a k) (nth b k) else lexC (a.drop (k + 1)) (b.drop (k + 1)) := by
  rw [drop_nth ha, drop_nth hb, lexC, cmpI]
  by_cases h1 : nth a k < nth b k
  · simp [h1]
  · by_cases h2 : nth b k < nth a k
    · simp [h1, h2]
    · simp [h1, h2]

set_option maxHeartbeats 800000 in
theorem compare_any (x y : Int) (w : World) : Calls Tryz.prog 114 #[.int .i64 x, .int .i64 y] w fun e w' => e = .returned (.int .i64 (cmpI x y)) ∧ w = w' := by
  by_cases h1 : x < y
  · have hr := hid (show cmpI x y = -1 by rw [cmpI, if_pos h1])
    go_enter Tryz.func114, Tryz.ntmps114
    go_wp2_with (go_at_call 102; refine (isNaN_any _ _).mono ?_; rintro e w' ⟨rfl, rfl⟩)
    go_ret
    exact ⟨ret_int hr.out.symm, rfl⟩
  · by_cases h2 : y < x
    · have hr := hid (show cmpI x y = 1 by rw [cmpI, if_neg h1, if_pos h2])
      go_enter Tryz.func114, Tryz.ntmps114
      go_wp2_with (go_at_call 102; refine (isNaN_any _ _).mono ?_; rintro e w' ⟨rfl, rfl⟩)
      go_ret
      exact ⟨ret_int hr.out.symm, rfl⟩
    · have hr := hid (show cmpI x y = 0 by rw [cmpI, if_neg h1, if_neg h2])
      go_enter Tryz.func114, Tryz.ntmps114
      go_wp2_with (go_at_call 102; refine (isNaN_any _ _).mono ?_; rintro e w' ⟨rfl, rfl⟩)
      go_ret
      exact ⟨ret_int hr.out.symm, rfl⟩

set_option maxHeartbeats 800000 in
set_option maxRecDepth 100000 in
theorem sCompare_any {va vb : Value} {a b : List Int} {w0 w : World} [Ext w0 w] (ha : IsInts w0 va a) (hb : IsInts w0 vb b) :
    Calls Tryz.prog 100 #[va, vb] w fun e w' => e = .returned (.int .i64 (lexC a b)) ∧ w = w' := by
  obtain ⟨da, ma, rfl, la⟩ := ha.form
  obtain ⟨db, mb, rfl, lb⟩ := hb.form
  obtain ⟨na, hna⟩ : ∃ n, n = a.length := ⟨_, rfl⟩
  obtain ⟨nb, hnb⟩ : ∃ n, n = b.length := ⟨_, rfl⟩
  rw [← hna] at la ha ⊢
  rw [← hnb] at lb hb ⊢
  replace hna := hid hna
  replace hnb := hid hnb
  go_enter Tryz.func100, Tryz.ntmps100
  go_wp2
  go_loop [11] (fun i => ∃ k : Nat, k ≤ na ∧ k ≤ nb ∧ i = .int .i64 k ∧ Hid (lexC a b = lexC (a.drop k) (b.drop k))) (fun i => na - (intOf i).toNat)
  case atStart => exact ⟨0, by omega, by omega, rfl, rfl⟩
  case round =>
    obtain ⟨k, hk, hkb, rfl, heq⟩ := hrel
    by_cases hlt : k < na
    · by_cases hltb : k < nb
      · have ha' : k < a.length := by rw [← hna.out]; exact hlt
        have hb' : k < b.length := by rw [← hnb.out]; exact hltb
        obtain ⟨b1, o1, rfl, hc1⟩ := ha.at (w' := w) ha'
        obtain ⟨b2, o2, rfl, hc2⟩ := hb.at (w' := w) hb'
        have hs := hid (lexC_step ha' hb')
        clear ha' hb'
        by_cases hc : cmpI (nth a k) (nth b k) = 0
        · have hn := hid (show lexC a b = lexC (a.drop (k + 1)) (b.drop (k + 1)) by rw [heq.out, hs.out, if_neg (by simpa using hc)])
          replace hc := hid hc
          go_wp2_with fail
          with_reducible refine (compare_any _ _ _).mono ?_
          rw [hc.out]
          rintro e w1 ⟨rfl, rfl⟩
          go_wp2_with fail
          go_round
          case rel => exact ⟨k + 1, by omega, by omega, by go_num, hn.out⟩
          case measure => simp [intOf]; omega
        · have hn := hid (show lexC a b = cmpI (nth a k) (nth b k) by rw [heq.out, hs.out, if_pos hc])
          have hc2 : (cmpI (nth a k) (nth b k) == 0) = false := by simpa using hc
          replace hc := hid hc
          go_wp2_with fail
          with_reducible refine (compare_any _ _ _).mono ?_
          rintro e w1 ⟨rfl, rfl⟩
          go_wp2_with fail
          go_ret
          exact ⟨ret_int hn.out.symm, rfl⟩
      · have hn := hid (show lexC a b = 1 by
          rw [heq.out, show b.drop k = [] from List.drop_eq_nil_of_le (by have := hnb.out; omega), drop_nth (by have := hna.out; omega)]; rfl)
        obtain ⟨b1, o1, rfl, hc1⟩ := ha.at (w' := w) (k := k) (by have := hna.out; omega)
        go_wp2_with fail
        go_ret
        exact ⟨ret_int hn.out.symm, rfl⟩
    · have hkn : k = na := by omega
      by_cases hl : na < nb
      · have hn := hid (show lexC a b = -1 by
          rw [heq.out, show a.drop k = [] from List.drop_eq_nil_of_le (by have := hna.out; omega), drop_nth (by have := hnb.out; omega)]; rfl)
        replace hkn := hid hkn
        go_wp2_with fail
        go_ret
        exact ⟨ret_int hn.out.symm, rfl⟩
      · have hn := hid (show lexC a b = 0 by
          rw [heq.out, show a.drop k = [] from List.drop_eq_nil_of_le (by have := hna.out; omega), show b.drop k = [] from List.drop_eq_nil_of_le (by have := hnb.out; omega)]; rfl)
        replace hkn := hid hkn
        go_wp2_with fail
        go_ret
        exact ⟨ret_int hn.out.symm, rfl⟩
end Go.Proofs.YtllfchcocgdcjaaGreat

/- The place of a configuration among all: the program's search and the reference's. -/
namespace Go.Proofs.YtllfchcocgdcjaaGreat
open Go.RowKit

theorem lex_at {P : List (List Int)} (h : P.Pairwise (fun a b => lexC a b < 0)) {c : List Int} {t q : Nat} (ht : t < P.length) (hc : row P t = c) (hq : q < P.length) : (q < t → lexC (row P q) c < 0) ∧ (¬ q < t → ¬ lexC (row P q) c < 0) ∧ (q = t → lexC (row P q) c = 0) := by
  subst hc
  refine ⟨fun h1 => asc_row h h1 ht, fun h1 h2 => ?_, fun h1 => by rw [h1, lexC_self]⟩
  rcases Nat.eq_or_lt_of_le (Nat.le_of_not_lt h1) with e | e
  · subst e; rw [lexC_self] at h2; omega
  · have := asc_row h e hq
    rw [lexC_anti] at this
    omega

set_option maxHeartbeats 400000 in
theorem index1_any {va vb : Value} {a b : List Int} {w0 w : World} [Ext w0 w] (ha : IsInts w0 va a) (hb : IsInts w0 vb b) :
    Calls Tryz.prog 99 #[va, vb] w fun e w' => e = .returned (.int .i64 (lexC a b)) ∧ w = w' := by
  go_enter Tryz.func99, Tryz.ntmps99
  go_wp2_with fail
  with_reducible refine (sCompare_any (w0 := w0) ha hb).mono ?_
  rintro e w1 ⟨rfl, rfl⟩
  go_wp2_with fail
  go_ret
  exact ⟨rfl, rfl⟩
theorem index1_call (xa : Array Value) (W : World) : (callFunc 99 xa).run Tryz.prog W = .ok (.enter 99 xa) W := by kernel_rfl

set_option maxHeartbeats 800000 in
set_option maxRecDepth 100000 in
theorem binSearch_any {v vc : Value} {P : List (List Int)} {c : List Int} {w0 w : World} [Ext w0 w] (hP : IsRows w0 v P) (hc : IsInts w0 vc c) (hasc : P.Pairwise (fun a b => lexC a b < 0)) (hm : c ∈ P) (hl : P.length ≤ 1000) :
    Calls Tryz.prog 98 #[v, vc, .func (.func 99) #[] #[]] w fun e w' => e = .returned (.tuple #[.int .i64 (atR P c), .bool true]) ∧ w = w' := by
  obtain ⟨aP, cP, rfl, lP⟩ := hP.form
  have hc' := hc
  obtain ⟨dc, mc, rfl, lc⟩ := hc.form
  obtain ⟨ht, hrt⟩ := atR_lt hm
  have hcmp := hid (fun q hq => lex_at hasc ht hrt (q := q) hq)
  obtain ⟨t, htd⟩ : ∃ t, t = atR P c := ⟨_, rfl⟩
  rw [← htd] at ht hcmp ⊢
  replace hrt := hid hrt
  replace htd := hid htd
  have hcall := hid index1_call
  go_enter Tryz.func98, Tryz.ntmps98
  go_wp2
  go_loop [9, 10] (fun i j => ∃ lo hi : Nat, lo ≤ t ∧ t ≤ hi ∧ hi ≤ P.length ∧ i = .int .i64 lo ∧ j = .int .i64 hi) (fun i j => (intOf j).toNat - (intOf i).toNat)
  case atStart => exact ⟨0, P.length, by omega, by omega, by omega, rfl, rfl⟩
  case round =>
    obtain ⟨lo, hi, h1, h2, h3, rfl, rfl⟩ := hrel
    by_cases hlt : lo < hi
    · have hlo : lo ≤ (lo + hi) / 2 := by omega
      have hhi : (lo + hi) / 2 < hi := by omega
      have hhP : (lo + hi) / 2 < P.length := by omega
      obtain ⟨b1, o1, dr, mr, rfl, hcr, hir, hlr⟩ := hP.at (w' := w) hhP
      obtain ⟨hc1, hc2, _⟩ := hcmp.out _ hhP
      obtain ⟨r, hr⟩ : ∃ r, r = row P ((lo + hi) / 2) := ⟨_, rfl⟩
      rw [← hr] at hcr hir hlr hc1 hc2
      replace hr := hid hr
      by_cases hlt2 : (lo + hi) / 2 < t
      · have hd : decide (lexC r c < 0) = true := decide_eq_true (hc1 hlt2)
        have hd2 : lexC r c < 0 := hc1 hlt2
        clear hc1 hc2
        go_wp2_with fail
        with_reducible refine (index1_any (w0 := w0) hir hc').mono ?_
        rintro e w1 ⟨rfl, rfl⟩
        go_wp2_with fail
        go_round
        case rel => exact ⟨(lo + hi) / 2 + 1, hi, by omega, h2, h3, by go_num, rfl⟩
        case measure => simp [intOf]; omega
      · have hd : decide (lexC r c < 0) = false := decide_eq_false (by have := hc2 hlt2; omega)
        have hd2 : ¬ lexC r c < 0 := by have := hc2 hlt2; omega
        clear hc1 hc2
        go_wp2_with fail
        with_reducible refine (index1_any (w0 := w0) hir hc').mono ?_
        rintro e w1 ⟨rfl, rfl⟩
        go_wp2_with fail
        go_round
        case rel => exact ⟨lo, (lo + hi) / 2, h1, by omega, by omega, rfl, by go_num⟩
        case measure => simp [intOf]; omega
    · have e : lo = t := by omega
      subst e
      obtain ⟨b1, o1, dr, mr, rfl, hcr, hir, hlr⟩ := hP.at (w' := w) ht
      obtain ⟨_, _, hc3⟩ := hcmp.out _ ht
      have hz := hid (hc3 rfl)
      obtain ⟨r, hr⟩ : ∃ r, r = row P lo := ⟨_, rfl⟩
      rw [← hr] at hcr hir hlr hz
      replace hr := hid hr
      clear hc3
      go_wp2_with fail
      with_reducible refine (index1_any (w0 := w0) hir hc').mono ?_
      rw [hz.out]
      rintro e w1 ⟨rfl, rfl⟩
      go_wp2_with fail
      go_ret2
      exact ⟨rfl, rfl⟩

/-- the program's configurations and costs: a struct in a block of its own -/
def cosL (M : List (List Int)) (P : List (List Int)) : List (List Int) := P.map fun a => P.map fun b => mvC M a b
/-- the pointer points to the configurations of k servers and their costs -/
def IsWorks (w : World) (v : Value) (M : List (List Int)) (P : List (List Int)) : Prop := ∃ b mv pv cv, v = .pointer (some ⟨b, 0, none⟩) ∧ w.cell? ⟨b, 0, none⟩ = some mv ∧ w.cell? ⟨b, 1, none⟩ = some pv ∧ w.cell? ⟨b, 2, none⟩ = some cv ∧ IsRows w mv M ∧ IsRows w pv P ∧ IsRows w cv (cosL M P)
theorem IsWorks.ext {w w' : World} {v : Value} {M P : List (List Int)} (h : IsWorks w v M P) [e : Ext w w'] : IsWorks w' v M P := by
  obtain ⟨b, mv, pv, cv, h1, h2, h3, h4, h5, h6, h7⟩ := h
  exact ⟨b, mv, pv, cv, h1, e.cell h2, e.cell h3, e.cell h4, h5.ext, h6.ext, h7.ext⟩

set_option maxHeartbeats 800000 in
set_option maxRecDepth 100000 in
theorem index_any {v vc : Value} {M P : List (List Int)} {c : List Int} {w0 w : World} [Ext w0 w] (hW : IsWorks w0 v M P) (hc : IsInts w0 vc c) (hasc : P.Pairwise (fun a b => lexC a b < 0)) (hm : c ∈ P) (hl : P.length ≤ 1000) :
    Calls Tryz.prog 85 #[v, vc] w fun e w' => e = .returned (.int .i64 (atR P c)) ∧ w = w' := by
  obtain ⟨b, mv, pv, cv, rfl, h0, h1, h2, hM, hP, hC⟩ := hW
  have x1 := (‹Ext w0 w›).cell h1
  have hP' := hP
  obtain ⟨aP, cP, rfl, lP⟩ := hP.form
  go_enter Tryz.func85, Tryz.ntmps85
  go_wp2_with fail
  with_reducible refine (binSearch_any (w0 := w0) hP' hc hasc hm hl).mono ?_
  rintro e w1 ⟨rfl, rfl⟩
  go_wp2_with fail
  go_ret
  exact ⟨rfl, rfl⟩

end Go.Proofs.YtllfchcocgdcjaaGreat

/- Sorting and compacting a list of one's own; the numbers of a list in ascending order; one point moved. -/
namespace Go.Proofs.YtllfchcocgdcjaaGreat
open Go.RowKit

def sortL (xs : List Int) : List Int := xs.mergeSort fun x y => decide (x ≤ y)
theorem sortL_perm (xs : List Int) : (sortL xs).Perm xs := List.mergeSort_perm _ _
theorem sortL_len (xs : List Int) : (sortL xs).length = xs.length := (sortL_perm xs).length_eq
theorem sortL_asc (xs : List Int) : Asc (sortL xs) := by
  have h := List.pairwise_mergeSort (le := fun x y : Int => decide (x ≤ y)) (fun a b c h1 h2 => by simp at *; omega) (fun a b => by simp; omega) xs
  exact h.imp (fun h => by simpa using h)
theorem asc_uniq : ∀ {a b : List Int}, Asc a → Asc b → a.Perm b → a = b
  | [], b, _, _, p => (List.eq_nil_of_length_eq_zero (by simpa using p.length_eq.symm)).symm
  | x :: a, [], _, _, p => by simpa using p.length_eq
  | x :: a, y :: b, h1, h2, p => by
    have h1' := List.pairwise_cons.1 h1
    have h2' := List.pairwise_cons.1 h2
    have hx : x ∈ y :: b := p.mem_iff.1 (by simp)
    have hy : y ∈ x :: a := p.mem_iff.2 (by simp)
    have e : x = y := by
      rcases List.mem_cons.1 hx with e | hx
      · exact e
      · rcases List.mem_cons.1 hy with e | hy
        · exact e.symm
        · have := h1'.1 y hy
          have := h2'.1 x hx
          omega
    subst e
    rw [asc_uniq h1'.2 h2'.2 (p.cons_inv)]
theorem sortL_of_asc {xs : List Int} (h : Asc xs) : sortL xs = xs := asc_uniq (sortL_asc xs) h (sortL_perm xs)

set_option maxHeartbeats 400000 in
theorem sort_any {w : World} {B e : Nat} {v : Value} {xs : List Int} {R : List Row} (own : Own w B (intRowOf e v xs :: R)) (hB : B ≤ w.heap.size) (hl : xs.length ≤ 17592186044415) :
    Calls Tryz.prog 74 #[v] w fun ee w' => ee = .returned (.tuple #[]) ∧ Own w' B (intRowOf e v (sortL xs) :: R) ∧ Below B w w' := by
  rcases own.head.2 with ⟨h1, h2⟩ | ⟨g, cap, cur, hv, hb, hg, hc, hm, hz, ht⟩
  · have hx : xs = [] := List.eq_nil_of_length_eq_zero h2
    subst hx
    have h1' : v = .slice none 0 0 := h1
    subst h1'
    refine (Tryz.slices_Sort_int_none none 0 w).mono ?_
    rintro ee w' ⟨rfl, rfl⟩
    have e0 : sortL [] = [] := by simp [sortL]
    rw [e0]
    exact ⟨rfl, own, Below.refl _ _⟩
  · have hv' : v = .slice (some ⟨g, 0, none⟩) xs.length cap := hv
    subst hv'
    have ht' : cur.toList.take xs.length = xs.map (Value.int .i64) := by rw [← Nat.mul_one xs.length]; exact ht
    have hgl := (own.head.lt g rfl).2
    refine (Tryz.slices_Sort_int g 0 cap xs w (holds_of_blockI hg ht') hgl (by omega)).mono ?_
    rintro ee w' ⟨rfl, n, os, rfl⟩
    have hgr := grownBy_sortedI (w := w) (g := g) (n := n) (os := os) (sortL xs).toArray
    have ho := ownsRow_sortedI (w := w) (base := B) (n := n) (os := os) (ss := xs) (ts := sortL xs) (sortL_len xs) hb hg hc hm hz
    refine ⟨rfl, own.turn (r' := intRowOf e (.slice (some ⟨g, 0, none⟩) xs.length cap) (sortL xs)) ?_ hgr (.inl rfl), below_of_grown own.head hgr hB⟩
    show World.ownsRow _ B e 1 (.slice (some ⟨g, 0, none⟩) xs.length cap) (sortL xs).length ((sortL xs).map (Value.int .i64))
    rw [sortL_len]
    exact ho

/-- a configuration with one point in the place of another one -/
def movL (a : List Int) (p r : Int) : List Int := sortL (a.set (ixOf a p).toNat r)
theorem movL_len (a : List Int) (p r : Int) : (movL a p r).length = a.length := by rw [movL, sortL_len, List.length_set]

end Go.Proofs.YtllfchcocgdcjaaGreat

/- The configurations of k servers and the costs of moves between them: made by the program. -/
namespace Go.Proofs.YtllfchcocgdcjaaGreat
open Go.RowKit

theorem IsMet.ext {w w' : World} {v : Value} {M : List (List Int)} (h : IsMet w v M) [e : Ext w w'] : IsMet w' v M := by
  obtain ⟨v1, h1, h2⟩ := h
  exact ⟨v1, h1, h2.ext⟩
abbrev wkRow (b : Nat) (cs : List Value) : Row := ⟨111, 3, .slice (some ⟨b, 0, none⟩) 1 1, 1, cs⟩
theorem Tab.setBox {w : World} {B e z b : Nat} {v : Value} {M : List (List Int)} {cs : List Value} {R : List Row} (h : Tab w B v M (⟨e, z, .slice (some ⟨b, 0, none⟩) 1 1, 1, cs⟩ :: R)) (j : Nat) (u : Value) :
    Tab (w.setCell ⟨b, j, none⟩ u) B v M (⟨e, z, .slice (some ⟨b, 0, none⟩) 1 1, 1, cs.set j u⟩ :: R) ∧ B ≤ b := by
  obtain ⟨vs, h1, h2⟩ := h
  have h3 := h2.perm (List.perm_middle.symm)
  exact ⟨⟨vs, h1, (h3.turn (r' := ⟨e, z, .slice (some ⟨b, 0, none⟩) 1 1, 1, cs.set j u⟩) (h3.head.stored j u).1 (h3.head.stored j u).2 (.inl rfl)).perm List.perm_middle⟩, (h3.head.lt b rfl).1⟩
theorem Tab.boxAt {w : World} {B e z b : Nat} {v : Value} {M : List (List Int)} {cs : List Value} {R : List Row} (h : Tab w B v M (⟨e, z, .slice (some ⟨b, 0, none⟩) 1 1, 1, cs⟩ :: R)) {j : Nat} (hj : j < z) :
    w.cell? ⟨b, j, none⟩ = some (cs.getD j undef) ∧ w.frozen? ⟨b, j, none⟩ = false := by
  have h3 := h.rest
  have h1 := h3.head.cellAt j (show j < 1 * z by omega)
  have h2 : cs.length = 1 * z := h3.head.1
  refine ⟨?_, h3.head.frozenAt j⟩
  rw [h1]
  simp [show j < cs.length by omega]

set_option maxHeartbeats 1600000 in
set_option maxRecDepth 100000 in
theorem worksOf_any {v : Value} {M : List (List Int)} {k : Nat} {w0 w : World} [Ext w0 w] (hm : IsMet w0 v M) (hM : metB M = true) (h1k : 1 ≤ k) (hk : k ≤ 3) :
    Calls Tryz.prog 58 #[v, .int .i64 k] w fun e w' => ∃ u, e = .returned u ∧ IsWorks w' u M (confs M.length k 0) ∧ Ext w w' := by
  have hm' := hm
  obtain ⟨v1, rfl, hR⟩ := hm
  obtain ⟨a1, c1, rfl, l1⟩ := hR.form
  have hMl := met_len hM
  have hM' := hid hM
  clear hM
  go_enter Tryz.func58, Tryz.ntmps58
  go_upto_region 1 with fail
  have e1 : Ext w (w.alloc (.cells #[.slice a1 M.length c1] 26)) := inferInstance
  have x0 : (w.alloc (.cells #[.slice a1 M.length c1] 26)).cell? ⟨w.heap.size, 0, none⟩ = some (.slice a1 M.length c1) := by go_simp
  obtain ⟨bx, hbx⟩ : ∃ q, q = w.heap.size := ⟨_, rfl⟩
  rw [← hbx] at x0 ⊢
  generalize w.alloc (.cells #[.slice a1 M.length c1] 26) = w1 at *
  replace hbx := hid hbx
  refine wp_region_held_drew (S := fun w' => w'.cell? ⟨bx, 0, none⟩ = some (.slice a1 M.length c1)) (by kernel_rfl) ((inferInstance : Ext w1 w1.drew).cell x0) (fun hHeld0 => ?_)
  have x0d := (inferInstance : Ext w1 w1.drew).cell x0
  have e1d : Ext w w1.drew := Ext.trans e1 inferInstance
  generalize w1.drew = w2 at *
  clear e1 x0
  refine wpAnyH_take (i := 0) (v := .agg #[.slice a1 M.length c1]) rfl (by kernel_rfl) (by kernel_rfl) (by kernel_rfl) (fun _ _ _ h => h) (Or.inl ⟨by rfl, by intro wx hx; go_simp⟩) (by assumption) ?_
  try simp only [List.getElem_toArray, List.getElem_cons_zero, Act.put, List.setIfInBounds_toArray, List.set_cons_zero, List.set_cons_succ]
  refine wpAnyH_take (i := 1) (v := .pointer (some ⟨bx, 0, none⟩)) rfl (by kernel_rfl) (by kernel_rfl) (by kernel_rfl) (fun _ _ _ h => h) (Or.inl ⟨by rfl, by intro wx hx; go_simp⟩) (by assumption) ?_
  try simp only [List.getElem_toArray, List.getElem_cons_succ, List.getElem_cons_zero, Act.put, List.setIfInBounds_toArray, List.set_cons_zero, List.set_cons_succ]
  refine wpAnyH_take (i := 2) (v := .slice a1 M.length c1) rfl (by kernel_rfl) (by kernel_rfl) (by kernel_rfl) (fun _ _ _ h => h) (Or.inl ⟨by rfl, by intro wx hx; go_simp⟩) (by assumption) ?_
  try simp only [List.getElem_toArray, List.getElem_cons_succ, List.getElem_cons_zero, Act.put, List.setIfInBounds_toArray, List.set_cons_zero, List.set_cons_succ]
  refine wpAnyH_take (i := 3) (v := .int .i64 M.length) rfl (by kernel_rfl) (by kernel_rfl) (by kernel_rfl) (fun _ _ _ h => h) (Or.inl ⟨by rfl, by intro wx hx; go_simp⟩) (by assumption) ?_
  try simp only [List.getElem_toArray, List.getElem_cons_succ, List.getElem_cons_zero, Act.put, List.setIfInBounds_toArray, List.set_cons_zero, List.set_cons_succ]
  refine wpAnyH_take (i := 4) (v := .int .i64 k) rfl (by kernel_rfl) (by kernel_rfl) (by kernel_rfl) (fun _ _ _ h => h) (Or.inl ⟨by rfl, by intro wx hx; go_simp⟩) (by assumption) ?_
  try simp only [List.getElem_toArray, List.getElem_cons_succ, List.getElem_cons_zero, Act.put, List.setIfInBounds_toArray, List.set_cons_zero, List.set_cons_succ]
  refine wpAnyH_ready (rs := [5]) (by kernel_rfl) (by simp) ?_
  refine AllReadyH.cons rfl (fun K hK => ?_) AllReadyH.nil
  go_simp
  go_at_call 83
  refine (configsOf_any (n := M.length) hMl.2 k 0 hk (by omega) _).mono ?_
  rintro e w3 ⟨vP, rfl, tabP, e3⟩
  obtain ⟨dP, nP, mP, rfl, hnP⟩ := tabP.formN
  have x3 := e3.cell x0d
  go_wp2_with fail
  refine hK.out _ _ x3 (fun _ => ?_)
  clear hK K
  try simp only [List.getElem_toArray, List.getElem_cons_succ, List.getElem_cons_zero, Act.put, List.setIfInBounds_toArray, List.set_cons_zero, List.set_cons_succ]
  refine wpAnyH_take (i := 6) (v := .agg #[.slice a1 M.length c1, .slice dP nP mP, .slice none 0 0]) rfl (by kernel_rfl) (by kernel_rfl) (by kernel_rfl) (fun _ _ _ h => h) (Or.inl ⟨by rfl, by intro wx hx; go_simp⟩) (by assumption) ?_
  try simp only [List.getElem_toArray, List.getElem_cons_succ, List.getElem_cons_zero, Act.put, List.setIfInBounds_toArray, List.set_cons_zero, List.set_cons_succ]
  obtain ⟨B, hB⟩ : ∃ b, b = w2.heap.size := ⟨_, rfl⟩
  rw [← hB] at tabP
  have hl3 : B ≤ w3.heap.size := by rw [hB]; exact e3.size
  have b3 : Below B w2 w3 := by rw [hB]; exact e3.below
  have hEx := hid (show ∀ u, Below B w2 u → Ext w2 u from fun u h => ⟨by rw [← hB]; exact h⟩)
  replace hB := hid hB
  have hcr := confs_rows (n := M.length) (k := k) (f := 0) hMl.2 hk
  have h216 : (confs M.length k 0).length ≤ 216 := by
    have h1 := confs_len hMl.2 k 0
    have h2 : 6 ^ k ≤ 6 ^ 3 := Nat.pow_le_pow_right (by omega) hk
    omega
  have hPm := hid (show ∀ r ∈ confs M.length k 0, r.length = k ∧ Pts M.length r from fun r hr => ⟨(confs_mem hr).1, fun x hx => by have := (confs_mem hr).2 x hx; omega⟩)
  have hdst := hid (dst_of_met hM'.out)
  obtain ⟨R, fr, hown, hP⟩ := tabP.sealed hcr.1 hcr.2.1 hcr.2.2
  clear hcr tabP
  obtain ⟨P, hPd⟩ : ∃ p, p = confs M.length k 0 := ⟨_, rfl⟩
  rw [← hPd] at hP hnP h216 hPm
  replace hPd := hid hPd
  obtain rfl : nP = P.length := hnP.out
  replace hP := hid hP
  have ownb := hown.lit 111 3 1 #[.slice a1 M.length c1, .slice dP P.length mP, .slice none 0 0] hl3 (by unfold maxLen; omega) rfl
  have b4 : Below B w2 (w3.alloc (.cells #[.slice a1 M.length c1, .slice dP P.length mP, .slice none 0 0] 111)) := b3.alloc hl3 _
  have x4 := (hEx.out _ b4).cell x0d
  refine wpAnyH_ready (rs := [7]) (by kernel_rfl) (by simp) ?_
  refine AllReadyH.cons rfl (fun K hK => ?_) AllReadyH.nil
  go_simp
  refine hK.out _ _ x4 (fun _ => ?_)
  clear hK K
  try simp only [List.getElem_toArray, List.getElem_cons_succ, List.getElem_cons_zero, Act.put, List.setIfInBounds_toArray, List.set_cons_zero, List.set_cons_succ]
  obtain ⟨bw, hbw⟩ : ∃ q, q = w3.heap.size := ⟨_, rfl⟩
  rw [← hbw] at ownb ⊢
  generalize w3.alloc (.cells #[.slice a1 M.length c1, .slice dP P.length mP, .slice none 0 0] 111) = w4 at *
  replace hbw := hid hbw
  refine wpAnyH_take (i := 8) (v := .pointer (some ⟨bw, 0, none⟩)) rfl (by kernel_rfl) (by kernel_rfl) (by kernel_rfl) (fun _ _ _ h => h) (Or.inl ⟨by rfl, by intro wx hx; go_simp⟩) (by assumption) ?_
  try simp only [List.getElem_toArray, List.getElem_cons_succ, List.getElem_cons_zero, Act.put, List.setIfInBounds_toArray, List.set_cons_zero, List.set_cons_succ]
  refine wpAnyH_done (by kernel_rfl) ?_ _
  have tab0 : Tab w4 B (.slice none 0 0) ((cosL M P).take 0) (wkRow bw [.slice a1 M.length c1, .slice dP P.length mP, .slice none 0 0] :: R) := Tab.nil ownb
  clear ownb hown x4 x3 b3 e3 hHeld0
  have hcl : (cosL M P).length = P.length := by simp [cosL]
  replace hcl := hid hcl
  have y1 := (tab0.boxAt (j := 1) (by omega)).1
  have y1' : w4.cell? ⟨bw, 1, none⟩ = some (.slice dP P.length mP) := y1
  clear y1
  go_wp2_with fail
  go_loopw [24] (fun i wr => ∃ q : Nat, q ≤ P.length ∧ i = .int .i64 q ∧ (∃ cv, Tab wr B cv ((cosL M P).take q) (wkRow bw [.slice a1 M.length c1, .slice dP P.length mP, cv] :: R)) ∧ Below B w2 wr) (fun i _ => P.length - (intOf i).toNat)
  case atStart => exact ⟨0, by omega, rfl, ⟨_, tab0⟩, b4⟩
  case round =>
    obtain ⟨q, hq, rfl, ⟨cv, tab⟩, hb⟩ := hrel
    obtain ⟨wo, rfl⟩ : ∃ y : World, y = wr := ⟨_, rfl⟩
    obtain ⟨dC, nC, mC, rfl, hnC⟩ := tab.formN
    by_cases hlt : q < P.length
    · have eo : Ext w2 wo := hEx.out _ hb
      have hBo : B ≤ wo.heap.size := by rw [hB.out]; exact eo.size
      obtain ⟨bp, op, np, cp, dr, mr, hd, hfq, hcr, hir⟩ := (hP.out wo tab.rest.tail).2 q hlt
      have hPq := hPm.out _ (row_mem hlt)
      have hTs := hid (show (cosL M P).take (q + 1) = (cosL M P).take q ++ [P.map fun b => mvC M (row P q) b] by
        have hq2 : q < (cosL M P).length := by rw [hcl.out]; exact hlt
        rw [take_succ_row hq2]
        congr 2
        simp [row, cosL, hlt])
      have hT2 : ((cosL M P).take q).length ≤ 1000 := by rw [List.length_take]; omega
      obtain ⟨T, hT⟩ : ∃ l, l = (cosL M P).take q := ⟨_, rfl⟩
      rw [← hT] at tab hTs hT2
      obtain ⟨r, hr⟩ : ∃ r, r = row P q := ⟨_, rfl⟩
      rw [← hr] at hfq hir hTs hPq
      rw [hfq] at hcr hir
      cases hd
      have hok := hid (show ∀ z, Own z B R → IsInts z (.slice dr r.length mr) r from fun z hz => by
        obtain ⟨_, _, _, _, _, _, _, _, _, h⟩ := (hP.out z hz).2 q hlt
        rw [hfq, ← hr] at h
        exact h)
      replace hPq := hid hPq
      replace hT := hid hT
      replace hr := hid hr
      replace hfq := hid hfq
      have y1 : wo.cell? ⟨bw, 1, none⟩ = some (.slice (some ⟨bp, op, none⟩) P.length mP) := (tab.boxAt (j := 1) (by omega)).1
      go_upto_region 6 with fail
      have tabX := tab.lit #[] [] hBo rfl rfl (by simp) (n := 0)
      have b1 : Below B w2 (wo.alloc (.cells #[] 3)) := hb.alloc hBo _
      have y1' : (wo.alloc (.cells #[] 3)).cell? ⟨bw, 1, none⟩ = some (.slice (some ⟨bp, op, none⟩) P.length mP) := (inferInstance : Ext wo _).cell y1
      generalize wo.alloc (.cells #[] 3) = w5 at *
      generalize wo.heap.size = g5 at *
      clear y1 tab
      have tabX0 : TabX w5 B (.slice dC nC mC) T (.slice (some ⟨g5, 0, none⟩) 0 0) ((P.take 0).map fun b => mvC M r b) (wkRow bw [.slice a1 M.length c1, .slice (some ⟨bp, op, none⟩) P.length mP, .slice dC nC mC] :: R) := tabX
      clear tabX
      go_wp2_with fail
      go_loopw [8, 34] (fun rv i wr => ∃ s : Nat, s ≤ P.length ∧ i = .int .i64 s ∧ TabX wr B (.slice dC nC mC) T rv ((P.take s).map fun b => mvC M r b) (wkRow bw [.slice a1 M.length c1, .slice (some ⟨bp, op, none⟩) P.length mP, .slice dC nC mC] :: R) ∧ Below B w2 wr) (fun _ i _ => P.length - (intOf i).toNat)
      case atStart => exact ⟨0, by omega, rfl, tabX0, b1⟩
      case round =>
        obtain ⟨s, hs, rfl, tab, hb⟩ := hrel
        obtain ⟨d6, n6, m6, rfl, hn6⟩ := tab.rformN
        obtain ⟨wq, rfl⟩ : ∃ y : World, y = wr := ⟨_, rfl⟩
        have eq : Ext w2 wq := hEx.out _ hb
        have hBq : B ≤ wq.heap.size := by rw [hB.out]; exact eq.size
        by_cases hlts : s < P.length
        · have e0q : Ext w0 wq := Ext.trans ‹Ext w0 w› (Ext.trans e1d eq)
          have hir1 := hok.out wq tab.tab.rest.tail
          obtain ⟨bp2, op2, np2, cp2, dr2, mr2, hd2, hfq2, hcr2, hir2⟩ := (hP.out wq tab.tab.rest.tail).2 s hlts
          rw [hfq2] at hcr2 hir2
          cases hd2
          have xq := eq.cell x0d
          have hPs := hid (hPm.out _ (row_mem hlts))
          have hsn := hid (show ((P.take (s + 1)).map fun b => mvC M r b) = ((P.take s).map fun b => mvC M r b) ++ [mvC M r (row P s)] by rw [take_succ_row hlts, List.map_append]; rfl)
          have hlx : ((P.take s).map fun b => mvC M r b).length ≤ 1000 := by rw [List.length_map, List.length_take]; omega
          obtain ⟨r2, hr2⟩ : ∃ r2, r2 = row P s := ⟨_, rfl⟩
          rw [← hr2] at hcr2 hir2 hPs hsn
          obtain ⟨X, hX⟩ : ∃ l, l = (P.take s).map fun b => mvC M r b := ⟨_, rfl⟩
          rw [← hX] at tab hsn hlx
          replace hX := hid hX
          replace hr2 := hid hr2
          replace hfq2 := hid hfq2
          have hmq := hm'.ext (w' := wq)
          go_wp2_with fail
          with_reducible refine (moveCost_any (w0 := wq) (w := wq) hmq hM'.out hir1 hir2 hPq.out.2 hPs.out.2 (by rw [hPq.out.1, hPs.out.1]) (by rw [hPq.out.1]; exact hk)).mono ?_
          rintro e w6 ⟨rfl, e6⟩
          have tab6 := tab.ext (w' := w6)
          have b6 : Below B w2 w6 := hb.trans (e6.below.mono hBq)
          have hB6 : B ≤ w6.heap.size := Nat.le_trans hBq e6.size
          clear tab
          generalize mvC M r r2 = y at *
          go_wp2_with (at_builtin; refine wpList_grow rfl (.tmp 38) (.tmp 43) rfl rfl tab6 hB6 rfl (by omega) ?_; intro v7 w7 tab7 b7)
          go_roundw
          case rel => exact ⟨s + 1, by omega, by go_num, by rw [hsn.out]; exact tab7, b6.trans b7⟩
          case measure => simp [intOf]; omega
        · have hsl : s = P.length := by omega
          have tab8 : TabX wq B (.slice dC nC mC) T (.slice d6 n6 m6) (P.map fun b => mvC M r b) (wkRow bw [.slice a1 M.length c1, .slice (some ⟨bp, op, none⟩) P.length mP, .slice dC nC mC] :: R) := by
            have e : (P.take s).map (fun b => mvC M r b) = P.map fun b => mvC M r b := by rw [hsl, List.take_length]
            rw [← e]; exact tab
          have y2 : wq.cell? ⟨bw, 2, none⟩ = some (.slice dC nC mC) := (tab.tab.boxAt (j := 2) (by omega)).1
          replace hsl := hid hsl
          clear tab
          go_wp2_with (at_builtin; refine wpList_push rfl (.tmp 50) (.tmp 52) rfl rfl tab8 hBq rfl (by omega) ?_; intro v9 w9 tab9 b9; obtain ⟨d9, n9, m9, hv9, hn9⟩ := tab9.formN; subst hv9; (have y9 := tab9.boxAt (j := 2) (by omega)); (have y9a : w9.cell? ⟨bw, 2, none⟩ = some (.slice dC nC mC) := y9.1); have y9b := y9.2)
          have tabF := tab9.setBox 2 (.slice d9 n9 m9)
          go_roundw
          case rel => exact ⟨q + 1, by omega, by go_num, ⟨.slice d9 n9 m9, by rw [hTs.out]; exact tabF.1⟩, (hb.trans b9).setCell tabF.2 _⟩
          case measure => simp [intOf]; omega
    · have hqn : q = P.length := by omega
      have eo : Ext w2 wo := hEx.out _ hb
      have hE : Ext w wo := Ext.trans e1d eo
      have e0o : Ext w0 wo := Ext.trans ‹Ext w0 w› hE
      have htk : (cosL M P).take q = cosL M P := by rw [hqn, ← hcl.out, List.take_length]
      rw [htk] at tab
      have z0 : wo.cell? ⟨bw, 0, none⟩ = some (.slice a1 M.length c1) := (tab.boxAt (j := 0) (by omega)).1
      have z1 : wo.cell? ⟨bw, 1, none⟩ = some (.slice dP P.length mP) := (tab.boxAt (j := 1) (by omega)).1
      have z2 : wo.cell? ⟨bw, 2, none⟩ = some (.slice dC nC mC) := (tab.boxAt (j := 2) (by omega)).1
      have hrd := tab.reads (by unfold ShortRows; rw [hcl.out]; omega) (fun r hr => by
        obtain ⟨a, _, rfl⟩ := List.mem_map.1 hr
        unfold Short; rw [List.length_map]; omega) (fun r hr x hx => by
        obtain ⟨a, ha, rfl⟩ := List.mem_map.1 hr
        obtain ⟨b, hb', rfl⟩ := List.mem_map.1 hx
        have h1 := hPm.out a ha
        have h2 := hPm.out b hb'
        have := mvC_in hdst.out h1.2 h2.2 (by rw [h1.1, h2.1]) (by rw [h1.1]; omega)
        unfold I64
        omega)
      have hfin := hid (show IsWorks wo (.pointer (some ⟨bw, 0, none⟩)) M (confs M.length k 0) by
        rw [← hPd.out]
        exact ⟨bw, _, _, _, rfl, z0, z1, z2, hR.ext, (hP.out wo tab.rest.tail).1, hrd⟩)
      clear z0 z1 z2 hrd htk
      replace hqn := hid hqn
      go_wp2_with fail
      go_ret
      exact ⟨_, rfl, hfin.out, hE⟩
end Go.Proofs.YtllfchcocgdcjaaGreat

/- Whether a list is a work list: the program's test. -/
namespace Go.Proofs.YtllfchcocgdcjaaGreat
open Go.RowKit

def lipB (M P : List (List Int)) (ws : List Int) : Bool := decide (∀ i, i < ws.length → ∀ j, j < ws.length → nth ws i - nth ws j ≤ mvC M (row P i) (row P j))
def workB (M P : List (List Int)) (ws : List Int) : Bool := decide (ws.length = P.length) && (belowB 100000 ws && lipB M P ws)
theorem lipB_not {M P : List (List Int)} {ws : List Int} {i j : Nat} (hi : i < ws.length) (hj : j < ws.length) (h : mvC M (row P i) (row P j) < nth ws i - nth ws j) : lipB M P ws = false := by
  rw [lipB, decide_eq_false_iff_not]
  intro h'
  have := h' i hi j hj
  omega
theorem lipB_of {M P : List (List Int)} {ws : List Int} (h : ∀ i, i < ws.length → ∀ j, j < ws.length → nth ws i - nth ws j ≤ mvC M (row P i) (row P j)) : lipB M P ws = true := decide_eq_true h
theorem cosL_at {M P : List (List Int)} {i j : Nat} (hi : i < P.length) (hj : j < P.length) : (row (cosL M P) i).length = P.length ∧ nth (row (cosL M P) i) j = mvC M (row P i) (row P j) := by
  have e : row (cosL M P) i = P.map fun b => mvC M (row P i) b := by simp [row, cosL, hi]
  rw [e]
  refine ⟨by simp, ?_⟩
  simp [nth, row, hj]

end Go.Proofs.YtllfchcocgdcjaaGreat

