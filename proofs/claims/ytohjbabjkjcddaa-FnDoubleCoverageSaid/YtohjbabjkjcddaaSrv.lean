/- Tests on configurations and sequences of servers, of the program and of the reference. Written by srv.py. -/
import Derived.Test.YtohjbabjkjcddaaImplB
import Derived.Test.YtohjbabjkjcddaaTakes
import Derived.Test.YtohjbabjkjcddaaCfgP
namespace Go.Proofs.Ytohjbabjkjcddaa
open Go.RowKit

def ascB (xs : List Int) : Bool := decide (∀ i, i < xs.length - 1 → nth xs i ≤ nth xs (i + 1))
theorem ascB_of {xs : List Int} (h : ∀ i, i + 1 < xs.length → nth xs i ≤ nth xs (i + 1)) : ascB xs = true := by
  simp only [ascB, decide_eq_true_eq]
  exact fun i hi => h i (by omega)
theorem ascB_not {xs : List Int} {i : Nat} (hi : i + 1 < xs.length) (h : nth xs (i + 1) < nth xs i) : ascB xs = false := by
  rw [ascB, decide_eq_false_iff_not]
  intro h'
  have := h' i (by omega)
  omega
def cfgB (n : Int) (a : List Int) : Bool := inB a.length 1 3 && (belowB n a && ascB a)
def srvB (M : List (List Int)) (a X : List Int) : Bool := metB M && (cfgB M.length a && (decide (X.length ≤ 60) && belowB M.length X))
theorem asc_chain {xs : List Int} (h : ascB xs = true) {i : Nat} : ∀ {d : Nat}, i + d < xs.length → nth xs i ≤ nth xs (i + d)
  | 0, _ => Int.le_refl _
  | d + 1, hd => by
    have h1 := asc_chain h (i := i) (d := d) (by omega)
    simp only [ascB, decide_eq_true_eq] at h
    have h2 := h (i + d) (by omega)
    exact Int.le_trans h1 h2
theorem ascB_asc {xs : List Int} : ascB xs = true ↔ Asc xs := by
  constructor
  · intro h
    rw [Asc, List.pairwise_iff_getElem]
    intro i j hi hj hij
    have := asc_chain h (i := i) (d := j - i) (by omega)
    rw [show i + (j - i) = j by omega] at this
    simpa [nth, hi, hj] using this
  · intro h
    rw [Asc, List.pairwise_iff_getElem] at h
    refine ascB_of fun i hi => ?_
    have := h i (i + 1) (by omega) hi (by omega)
    simpa [nth, hi, show i < xs.length by omega] using this
theorem cfgB_iff {n : Nat} {a : List Int} : cfgB n a = true ↔ (1 ≤ a.length ∧ a.length ≤ 3) ∧ Pts n a ∧ Asc a := by
  simp only [cfgB, Bool.and_eq_true]
  rw [ascB_asc]
  constructor
  · rintro ⟨h1, h2, h3⟩
    have := inB_true.1 h1
    refine ⟨by omega, fun x hx => ?_, h3⟩
    obtain ⟨k, hk, rfl⟩ := mem_iff_nth.1 hx
    exact belowB_at h2 hk
  · rintro ⟨h1, h2, h3⟩
    refine ⟨inB_true.2 (by omega), belowB_of fun k hk => ?_, h3⟩
    have := h2 _ (nth_mem hk)
    exact inB_true.2 (by omega)
theorem srvB_iff {M : List (List Int)} {a X : List Int} : srvB M a X = true ↔ metB M = true ∧ cfgB M.length a = true ∧ X.length ≤ 60 ∧ belowB M.length X = true := by
  simp [srvB]

set_option maxHeartbeats 400000 in
theorem isNaN_any (x : Int) (w : World) : Calls Try.prog 157 #[.int .i64 x] w fun e w' => e = .returned (.bool false) ∧ w = w' := by
  have h : (x != x) = false := by simp
  go_enter Try.func157, Try.ntmps157
  go_wp2
  go_ret
  exact ⟨rfl, rfl⟩
set_option maxHeartbeats 400000 in
theorem less_any (x y : Int) (w : World) : Calls Try.prog 128 #[.int .i64 x, .int .i64 y] w fun e w' => e = .returned (.bool (decide (x < y))) ∧ w = w' := by
  go_enter Try.func128, Try.ntmps128
  go_wp2_with (go_at_call 157; refine (isNaN_any _ _).mono ?_; rintro e w' ⟨rfl, rfl⟩)
  go_ret
  exact ⟨rfl, rfl⟩
set_option maxHeartbeats 800000 in
set_option maxRecDepth 100000 in
theorem isSorted_any {v : Value} {xs : List Int} {w0 w : World} [Ext w0 w] (hx : IsInts w0 v xs) :
    Calls Try.prog 91 #[v] w fun e w' => e = .returned (.bool (ascB xs)) ∧ Ext w w' := by
  obtain ⟨a, c, rfl, la⟩ := hx.form
  go_enter Try.func91, Try.ntmps91
  go_wp2
  go_loopw [3] (fun i wr => ∃ k : Nat, (k < xs.length ∨ (k = 0 ∧ xs.length = 0)) ∧ ((i = .int .i64 k ∧ 0 < xs.length) ∨ (xs.length = 0 ∧ i = .int .i64 (-1))) ∧ Hid (∀ j, k ≤ j → j + 1 < xs.length → nth xs j ≤ nth xs (j + 1)) ∧ Ext w wr) (fun i _ => (intOf i).toNat)
  case atStart =>
    rcases Nat.eq_zero_or_pos xs.length with h | h
    · exact ⟨0, .inr ⟨rfl, h⟩, .inr ⟨h, by rw [h]; rfl⟩, fun j _ hj => by omega, Ext.refl _⟩
    · refine ⟨xs.length - 1, .inl (by omega), .inl ⟨?_, h⟩, fun j hj hj2 => by omega, Ext.refl _⟩
      congr 1
      omega
  case round =>
    obtain ⟨k, hk, hi, hno, hxw⟩ := hrel
    rcases hi with ⟨rfl, hpos⟩ | ⟨h0, rfl⟩
    · by_cases hk0 : k = 0
      · have hr := hid (show ascB xs = true from ascB_of fun j hj => hno.out j (by omega) hj)
        subst hk0
        go_wp2
        go_ret
        exact ⟨ret_bool hr.out.symm, hxw⟩
      · obtain ⟨k, rfl⟩ : ∃ q, k = q + 1 := ⟨k - 1, by omega⟩
        have hkl : k + 1 < xs.length := by omega
        have e0 : Ext w0 wr := Ext.trans ‹Ext w0 w› hxw
        obtain ⟨b, o, rfl, hc1⟩ := hx.at (w' := wr) hkl
        obtain ⟨b', o', hq, hc2⟩ := hx.at (w' := wr) (k := k) (by omega)
        cases hq
        have hk2 : k < xs.length := by omega
        have e1 : ((k + 1 : Nat) : Int) - 1 = (k : Int) := by omega
        by_cases hlt : nth xs (k + 1) < nth xs k
        · have hr := hid (ascB_not hkl hlt)
          have hd := hid (decide_eq_true hlt)
          go_wp2_with (go_quiet ((go_at_call 128; exact Calls.quiet_of_same ((less_any _ _ _).mono fun _ _ ⟨h1, h2⟩ => ⟨h1, h2.symm⟩))))
          go_ret
          exact ⟨ret_bool hr.out.symm, Ext.trans hxw inferInstance⟩
        · have hno2 := hid (show ∀ j, k ≤ j → j + 1 < xs.length → nth xs j ≤ nth xs (j + 1) from fun j h1 h2 => by
            by_cases e : j = k
            · rw [e]; omega
            · exact hno.out j (by omega) h2)
          have hd := hid (decide_eq_false hlt)
          go_wp2_with (go_quiet ((go_at_call 128; exact Calls.quiet_of_same ((less_any _ _ _).mono fun _ _ ⟨h1, h2⟩ => ⟨h1, h2.symm⟩))))
          go_roundw
          case rel => exact ⟨k, .inl (by omega), .inl ⟨by go_num, hpos⟩, hno2.out, Ext.trans hxw inferInstance⟩
          case measure => simp [intOf]
    · have hr := hid (show ascB xs = true from ascB_of fun j hj => by omega)
      go_wp2
      go_ret
      exact ⟨ret_bool hr.out.symm, hxw⟩

set_option maxHeartbeats 800000 in
set_option maxRecDepth 100000 in
theorem isConfig_any {v va : Value} {M : List (List Int)} {a : List Int} {w0 w : World} [Ext w0 w] (hm : IsMet w0 v M) (ha : IsInts w0 va a) (h17 : M.length ≤ 17592186044415) :
    Calls Try.prog 104 #[v, va] w fun e w' => e = .returned (.bool (cfgB M.length a)) ∧ Ext w w' := by
  have ha' := ha
  obtain ⟨v1, rfl, hR⟩ := hm
  obtain ⟨a1, c1, rfl, l1⟩ := hR.form
  obtain ⟨da, ma, rfl, la⟩ := ha.form
  have x0 : (w.alloc (.cells #[.slice a1 M.length c1] 34)).cell? ⟨w.heap.size, 0, none⟩ = some (.slice a1 M.length c1) := by go_simp
  obtain ⟨RES, hRES⟩ : ∃ b, b = cfgB M.length a := ⟨_, rfl⟩
  rw [← hRES]
  replace hRES := hid hRES
  cases hc0 : inB a.length 1 3 with
  | false =>
    replace hc0 := hid hc0
    have hr := hid (show RES = false by rw [hRES.out]; simp [cfgB, hc0.out])
    go_enter Try.func104, Try.ntmps104
    go_wp2_with fail
    with_reducible refine (within_any _ _ _ _).mono ?_
    rw [hc0.out]
    rintro e wx ⟨rfl, rfl⟩
    go_wp2_with fail
    go_ret
    exact ⟨ret_bool hr.out.symm, inferInstance⟩
  | true =>
    replace hc0 := hid hc0
    cases hc1 : belowB M.length a with
    | false =>
      replace hc1 := hid hc1
      have hr := hid (show RES = false by rw [hRES.out]; simp [cfgB, hc0.out, hc1.out])
      go_enter Try.func104, Try.ntmps104
      go_wp2_with fail
      with_reducible refine (within_any _ _ _ _).mono ?_
      rw [hc0.out]
      rintro e wx ⟨rfl, rfl⟩
      go_wp2_with fail
      with_reducible refine (areBelow_any (w0 := w0) ha' (by omega) (by omega)).mono ?_
      rw [hc1.out]
      rintro e w2 ⟨rfl, hb2⟩
      have g2 : Ext w w2 := Ext.trans inferInstance hb2
      have e02 : Ext w0 w2 := Ext.trans ‹Ext w0 w› g2
      go_wp2_with fail
      go_ret
      exact ⟨ret_bool hr.out.symm, g2⟩
    | true =>
      replace hc1 := hid hc1
      cases hc2 : ascB a with
      | false =>
        replace hc2 := hid hc2
        have hr := hid (show RES = false by rw [hRES.out]; simp [cfgB, hc0.out, hc1.out, hc2.out])
        go_enter Try.func104, Try.ntmps104
        go_wp2_with fail
        with_reducible refine (within_any _ _ _ _).mono ?_
        rw [hc0.out]
        rintro e wx ⟨rfl, rfl⟩
        go_wp2_with fail
        with_reducible refine (areBelow_any (w0 := w0) ha' (by omega) (by omega)).mono ?_
        rw [hc1.out]
        rintro e w2 ⟨rfl, hb2⟩
        have g2 : Ext w w2 := Ext.trans inferInstance hb2
        have e02 : Ext w0 w2 := Ext.trans ‹Ext w0 w› g2
        go_wp2_with fail
        with_reducible refine (isSorted_any (w0 := w0) ha').mono ?_
        rw [hc2.out]
        rintro e w3 ⟨rfl, hb3⟩
        have g3 : Ext w w3 := Ext.trans g2 hb3
        have e03 : Ext w0 w3 := Ext.trans ‹Ext w0 w› g3
        go_wp2_with fail
        go_ret
        exact ⟨ret_bool hr.out.symm, g3⟩
      | true =>
        replace hc2 := hid hc2
        have hr := hid (show RES = true by rw [hRES.out]; simp [cfgB, hc0.out, hc1.out, hc2.out])
        go_enter Try.func104, Try.ntmps104
        go_wp2_with fail
        with_reducible refine (within_any _ _ _ _).mono ?_
        rw [hc0.out]
        rintro e wx ⟨rfl, rfl⟩
        go_wp2_with fail
        with_reducible refine (areBelow_any (w0 := w0) ha' (by omega) (by omega)).mono ?_
        rw [hc1.out]
        rintro e w2 ⟨rfl, hb2⟩
        have g2 : Ext w w2 := Ext.trans inferInstance hb2
        have e02 : Ext w0 w2 := Ext.trans ‹Ext w0 w› g2
        go_wp2_with fail
        with_reducible refine (isSorted_any (w0 := w0) ha').mono ?_
        rw [hc2.out]
        rintro e w3 ⟨rfl, hb3⟩
        have g3 : Ext w w3 := Ext.trans g2 hb3
        have e03 : Ext w0 w3 := Ext.trans ‹Ext w0 w› g3
        go_wp2_with fail
        go_ret
        exact ⟨ret_bool hr.out.symm, g3⟩
end Go.Proofs.Ytohjbabjkjcddaa
