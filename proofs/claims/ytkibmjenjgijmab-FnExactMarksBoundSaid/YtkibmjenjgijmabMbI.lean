/- The bound of marks: the program's. -/
import Derived.Test.YtkibmjenjgijmabRis
import Derived.Test.YtkibmjenjgijmabUse
import Derived.Test.YtkibmjenjgijmabPagT
namespace Go.Proofs.Ytkibmjenjgijmab
open Go.RowKit

/-- how many different numbers the first j have -/
def dfN (X : List Int) (j : Nat) : Int := (difL (X.take j)).length
theorem dfN_bd (X : List Int) (j : Nat) : 0 ≤ dfN X j ∧ dfN X j ≤ X.length := by
  have := difL_len (X.take j)
  rw [List.length_take] at this
  unfold dfN
  omega
theorem dfN_all (X : List Int) : dfN X X.length = (difL X).length := by unfold dfN; rw [List.take_length]
theorem outI_bd (X : List Int) (last mark : Int) (i : Nat) : 0 ≤ outI X last mark i ∧ outI X last mark i ≤ 1 := by unfold outI; split <;> omega
theorem sgOut_bd (X : List Int) (last mark : Int) (n : Nat) : 0 ≤ sgTo (outI X last mark) n ∧ sgTo (outI X last mark) n ≤ n := by
  have := sgTo_bd (f := outI X last mark) (a := 0) (b := 1) (n := n) fun i _ => outI_bd X last mark i
  omega
theorem gnI_bd {k : Int} (hk : 1 ≤ k ∧ k ≤ 6) (X : List Int) (last mark : Int) : -6 - (X.length : Int) ≤ gnI k (dfN X) X last mark ∧ gnI k (dfN X) X last mark ≤ X.length := by
  have h1 := sgOut_bd X last mark X.length
  have h2 := dfN_bd X (mark + 1).toNat
  unfold gnI
  omega
theorem mbTo_bd {k : Int} (hk : 1 ≤ k ∧ k ≤ 6) {X Mk : List Int} (hl : X.length ≤ 60) : ∀ t : Nat, -66 * (t : Int) ≤ mbTo k (dfN X) X Mk t ∧ mbTo k (dfN X) X Mk t ≤ 60 + 60 * (t : Int)
  | 0 => by
    have := dfN_bd X X.length
    simp only [mbTo]
    omega
  | t + 1 => by
    have h1 := mbTo_bd hk (X := X) (Mk := Mk) hl t
    have h2 := gnI_bd hk X (lastM Mk t) (nth Mk t)
    simp only [mbTo]
    omega
theorem outI_ge {X : List Int} {last mark : Int} {i : Nat} (h : mark ≤ (i : Int)) : outI X last mark i = 0 := by
  unfold outI outB
  rw [if_neg]
  simp; omega
theorem outI_no {X : List Int} {last mark : Int} {i : Nat} (h : (i : Int) < mark) (h2 : nxU X i < 0) : outI X last mark i = 1 := by
  unfold outI outB
  rw [if_pos]
  simp; omega
theorem outI_in {X : List Int} {last mark : Int} {i : Nat} (h : (i : Int) < mark) (h2 : nxU X i > mark) (h3 : last > (i : Int)) : outI X last mark i = 1 := by
  unfold outI outB
  rw [if_pos]
  simp; omega
theorem outI_out {X : List Int} {last mark : Int} {i : Nat} (h2 : ¬ nxU X i < 0) (h3 : ¬ (nxU X i > mark ∧ last > (i : Int))) : outI X last mark i = 0 := by
  unfold outI outB
  rw [if_neg]
  simp only [Bool.and_eq_true, Bool.or_eq_true, decide_eq_true_eq]
  omega

set_option maxHeartbeats 800000 in
set_option maxRecDepth 100000 in
theorem gain_any {v : Value} {k last mark : Int} {X : List Int} {w0 w : World} [Ext w0 w] (hX : IsInts w0 v X) (hl : X.length ≤ 60) (hk : 1 ≤ k ∧ k ≤ 6) (hm : 0 ≤ mark ∧ mark < (X.length : Int)) (_hla : -1 ≤ last ∧ last ≤ 60) :
    Calls Try.prog 54 #[.int .i64 k, v, .int .i64 last, .int .i64 mark] w fun e w' => e = .returned (.int .i64 (gnI k (dfN X) X last mark)) ∧ Ext w w' := by
  have hX' := hX
  obtain ⟨da, ma, rfl, la⟩ := hX.form
  obtain ⟨ba, oa, rfl, _⟩ := hX'.at (w' := w) (k := 0) (by omega)
  obtain ⟨m, rfl⟩ := Int.eq_ofNat_of_zero_le hm.1
  have hmX : m < X.length := by omega
  have hcut := hX'.cut (k := m + 1) (by omega)
  have hcap := hX'.cap
  have hw1 := hid (show IntKind.i64.wrap ((m : Int) + 1) = (m : Int) + 1 from IntWalk.i64_in _ (by omega))
  have hD := hid (show dfN X (m + 1) = ((difL (X.take (m + 1))).length : Int) from rfl)
  have hgn := hid (show gnI k (dfN X) X last m = dfN X (m + 1) - k - sgTo (outI X last m) X.length by
    unfold gnI
    have : ((m : Int) + 1).toNat = m + 1 := by omega
    rw [this])
  have hDb := dfN_bd X (m + 1)
  have hnl := hid (nxUs_len X)
  go_enter Try.func54, Try.ntmps54
  go_wp2_with fail
  with_reducible refine (rising_any (w0 := w0) hcut).mono ?_
  rintro e w1 ⟨d1, m1, rfl, hr1, e1⟩
  have e01 : Ext w0 w1 := Ext.trans ‹Ext w0 w› e1
  clear hr1
  obtain ⟨D, hDd⟩ : ∃ D, D = (difL (X.take (m + 1))).length := ⟨_, rfl⟩
  have hD2 := hid (show dfN X (m + 1) = (D : Int) by rw [hD.out, hDd])
  have hDb2 : D ≤ X.length := by have := hD2.out; omega
  rw [← hDd]
  replace hDd := hid hDd
  clear hD hDb hcut
  have hgn2 := hid (show gnI k (dfN X) X last m = (D : Int) - k - sgTo (outI X last m) X.length by rw [hgn.out, hD2.out])
  go_wp2_with fail
  with_reducible refine (nextUses_any (w0 := w0) (w := w1) hX' (by omega)).mono ?_
  rw [hnl.out]
  rintro e w2 ⟨d2, m2, rfl, hr2, e2⟩
  have hr2' : IsInts w2 (.slice d2 X.length m2) (nxUs X) := hr2
  clear hr2
  go_wp2_with fail
  go_loopw [9, 23] (fun o i wr => ∃ t : Nat, t ≤ X.length ∧ i = .int .i64 t ∧ o = .int .i64 ((D : Int) - k - sgTo (outI X last m) t) ∧ Ext w2 wr) (fun _ i _ => X.length - (intOf i).toNat)
  case atStart => exact ⟨0, by omega, rfl, by simp [sgTo], Ext.refl _⟩
  case round =>
    obtain ⟨t, ht, rfl, rfl, hd⟩ := hrel
    obtain ⟨wo, rfl⟩ : ∃ y : World, y = wr := ⟨_, rfl⟩
    have hsb := sgOut_bd X last m t
    have hso := outI_bd X last m t
    by_cases hlt : t < X.length
    · have htn : t < (nxUs X).length := by rw [hnl.out]; exact hlt
      obtain ⟨bn, on, hdn, hcn⟩ := hr2'.at (w' := wo) htn
      cases hdn
      rw [nxUs_at hlt] at hcn
      have hss : sgTo (outI X last m) (t + 1) = sgTo (outI X last m) t + outI X last m t := rfl
      obtain ⟨S, hS⟩ : ∃ s, s = sgTo (outI X last m) t := ⟨_, rfl⟩
      rw [← hS] at hsb hss ⊢
      replace hS := hid hS
      have h1 := outI_ge (X := X) (last := last) (mark := m) (i := t)
      have h2 := outI_no (X := X) (last := last) (mark := m) (i := t)
      have h3 := outI_in (X := X) (last := last) (mark := m) (i := t)
      have h4 := outI_out (X := X) (last := last) (mark := m) (i := t)
      obtain ⟨y, hy⟩ : ∃ y, y = nxU X t := ⟨_, rfl⟩
      rw [← hy] at hcn h2 h3 h4
      replace hy := hid hy
      by_cases hge : m ≤ t
      · have hs2 := hid (show sgTo (outI X last m) (t + 1) = S by rw [hss, h1 (by omega)]; omega)
        have g1 : decide (m ≤ t) = true := decide_eq_true hge
        clear h1 h2 h3 h4 hss hso
        go_wp2_with fail
        go_roundw
        case rel => exact ⟨t + 1, by omega, by go_num, by rw [hs2.out], hd⟩
        case measure => simp [intOf]; omega
      · have g1 : decide (m ≤ t) = false := decide_eq_false hge
        by_cases hneg : y < 0
        · have hs2 := hid (show sgTo (outI X last m) (t + 1) = S + 1 by rw [hss, h2 (by omega) hneg])
          have g2 : decide (y < 0) = true := decide_eq_true hneg
          clear h1 h2 h3 h4 hss hso
          go_wp2_with fail
          go_roundw
          case rel => exact ⟨t + 1, by omega, by go_num, by rw [hs2.out]; go_num, hd⟩
          case measure => simp [intOf]; omega
        · have g2 : decide (y < 0) = false := decide_eq_false hneg
          by_cases hgt : y > (m : Int)
          · have g3 : decide (y > (m : Int)) = true := decide_eq_true hgt
            by_cases hla : last > (t : Int)
            · have g4 : decide (last > (t : Int)) = true := decide_eq_true hla
              have hs2 := hid (show sgTo (outI X last m) (t + 1) = S + 1 by rw [hss, h3 (by omega) hgt hla])
              clear h1 h2 h3 h4 hss hso
              go_wp2_with fail
              go_roundw
              case rel => exact ⟨t + 1, by omega, by go_num, by rw [hs2.out]; go_num, hd⟩
              case measure => simp [intOf]; omega
            · have g4 : decide (last > (t : Int)) = false := decide_eq_false hla
              have hs2 := hid (show sgTo (outI X last m) (t + 1) = S by rw [hss, h4 hneg (by omega)]; omega)
              clear h1 h2 h3 h4 hss hso
              go_wp2_with fail
              go_roundw
              case rel => exact ⟨t + 1, by omega, by go_num, by rw [hs2.out], hd⟩
              case measure => simp [intOf]; omega
          · have g3 : decide (y > (m : Int)) = false := decide_eq_false hgt
            have hs2 := hid (show sgTo (outI X last m) (t + 1) = S by rw [hss, h4 hneg (by omega)]; omega)
            clear h1 h2 h3 h4 hss hso
            go_wp2_with fail
            go_roundw
            case rel => exact ⟨t + 1, by omega, by go_num, by rw [hs2.out], hd⟩
            case measure => simp [intOf]; omega
    · have htl : t = X.length := by omega
      have hfin := hid (show gnI k (dfN X) X last m = (D : Int) - k - sgTo (outI X last m) t by rw [hgn2.out, htl])
      replace htl := hid htl
      clear hsb hso
      go_wp2_with fail
      go_ret
      exact ⟨ret_int hfin.out.symm, Ext.trans e1 (Ext.trans e2 hd)⟩

set_option maxHeartbeats 800000 in
set_option maxRecDepth 100000 in
theorem marksBound_any {v u : Value} {k : Int} {X Mk : List Int} {w0 w : World} [Ext w0 w] (hX : IsInts w0 v X) (hM : IsInts w0 u Mk) (hl : X.length ≤ 60) (hml : Mk.length ≤ 60) (hk : 1 ≤ k ∧ k ≤ 6) (hm : belowB X.length Mk = true) :
    Calls Try.prog 29 #[.int .i64 k, v, u] w fun e w' => e = .returned (.int .i64 (mbTo k (dfN X) X Mk Mk.length)) ∧ Ext w w' := by
  have hX' := hX
  have hM' := hM
  obtain ⟨da, ma, rfl, la⟩ := hX.form
  obtain ⟨dm, mm, rfl, lm⟩ := hM.form
  have hD := hid (dfN_all X)
  have hDl := hid (difL_len X)
  go_enter Try.func29, Try.ntmps29
  go_wp2_with fail
  with_reducible refine (rising_any (w0 := w0) hX').mono ?_
  rintro e w1 ⟨d1, m1, rfl, hr1, e1⟩
  clear hr1
  obtain ⟨D, hDd⟩ : ∃ D, D = (difL X).length := ⟨_, rfl⟩
  have hD2 := hid (show mbTo k (dfN X) X Mk 0 = (D : Int) by rw [hDd, ← hD.out]; rfl)
  rw [← hDd]
  replace hDd := hid hDd
  go_wp2_with fail
  go_loopw [7, 8, 16] (fun o q i wr => ∃ t : Nat, t ≤ Mk.length ∧ i = .int .i64 t ∧ o = .int .i64 (mbTo k (dfN X) X Mk t) ∧ q = .int .i64 (lastM Mk t) ∧ Ext w1 wr) (fun _ _ i _ => Mk.length - (intOf i).toNat)
  case atStart => exact ⟨0, by omega, rfl, by rw [hD2.out], rfl, Ext.refl _⟩
  case round =>
    obtain ⟨t, ht, rfl, rfl, rfl, hd⟩ := hrel
    obtain ⟨wo, rfl⟩ : ∃ y : World, y = wr := ⟨_, rfl⟩
    have ew : Ext w wo := Ext.trans e1 hd
    have e0 : Ext w0 wo := Ext.trans ‹Ext w0 w› ew
    by_cases hlt : t < Mk.length
    · obtain ⟨bm, om, hdm, hcm⟩ := hM'.at (w' := wo) hlt
      cases hdm
      have hmk := belowB_at hm hlt
      have hb := mbTo_bd hk (X := X) (Mk := Mk) hl t
      have hg := gnI_bd hk X (lastM Mk t) (nth Mk t)
      have hs := hid (show mbTo k (dfN X) X Mk (t + 1) = mbTo k (dfN X) X Mk t + gnI k (dfN X) X (lastM Mk t) (nth Mk t) from rfl)
      have hls := hid (show lastM Mk (t + 1) = nth Mk t from rfl)
      have hla : -1 ≤ lastM Mk t ∧ lastM Mk t ≤ 60 := by
        cases t with
        | zero => simp [lastM]
        | succ q =>
          have := belowB_at hm (k := q) (by omega)
          simp only [lastM]
          omega
      obtain ⟨O, hO⟩ : ∃ s, s = mbTo k (dfN X) X Mk t := ⟨_, rfl⟩
      obtain ⟨L, hL⟩ : ∃ s, s = lastM Mk t := ⟨_, rfl⟩
      obtain ⟨y, hy⟩ : ∃ s, s = nth Mk t := ⟨_, rfl⟩
      rw [← hO] at hb ⊢
      rw [← hL] at hla hg ⊢
      rw [← hy] at hmk hg hcm
      have hs2 := hid (show mbTo k (dfN X) X Mk (t + 1) = O + gnI k (dfN X) X L y by rw [hs.out, ← hO, ← hL, ← hy])
      have hls2 := hid (show lastM Mk (t + 1) = y by rw [hls.out, ← hy])
      replace hO := hid hO
      replace hL := hid hL
      replace hy := hid hy
      clear hs hls
      go_wp2_with fail
      with_reducible refine (gain_any (w0 := w0) (w := wo) hX' hl hk hmk hla).mono ?_
      rintro e w2 ⟨rfl, e2⟩
      obtain ⟨G, hG⟩ : ∃ s, s = gnI k (dfN X) X L y := ⟨_, rfl⟩
      rw [← hG] at hg ⊢
      have hs3 := hid (show mbTo k (dfN X) X Mk (t + 1) = O + G by rw [hs2.out, hG])
      replace hG := hid hG
      go_wp2_with fail
      go_roundw
      case rel => exact ⟨t + 1, by omega, by go_num, by rw [hs3.out], by rw [hls2.out], Ext.trans hd e2⟩
      case measure => simp [intOf]; omega
    · have htl : t = Mk.length := by omega
      have hfin := hid (show mbTo k (dfN X) X Mk t = mbTo k (dfN X) X Mk Mk.length by rw [htl])
      replace htl := hid htl
      go_wp2_with fail
      go_ret
      exact ⟨ret_int hfin.out, ew⟩

/-- whether numbers are marks -/
def mrkB (X Mk : List Int) : Bool := belowB X.length Mk && rsB Mk
set_option maxHeartbeats 800000 in
theorem areMarksOf_any {v u : Value} {X Mk : List Int} {w0 w : World} [Ext w0 w] (hX : IsInts w0 v X) (hM : IsInts w0 u Mk) :
    Calls Try.prog 28 #[v, u] w fun e w' => e = .returned (.bool (mrkB X Mk)) ∧ Ext w w' := by
  have hX' := hX
  have hM' := hM
  obtain ⟨da, ma, rfl, la⟩ := hX.form
  obtain ⟨dm, mm, rfl, lm⟩ := hM.form
  cases hb : belowB X.length Mk with
  | false =>
    have hr := hid (show mrkB X Mk = false by rw [mrkB, hb]; rfl)
    replace hb := hid hb
    go_enter Try.func28, Try.ntmps28
    go_wp2_with fail
    with_reducible refine (areBelow_any (w0 := w0) hM' (by omega) (by omega)).mono ?_
    rw [hb.out]
    rintro e w2 ⟨rfl, e2⟩
    go_wp2_with fail
    go_ret
    exact ⟨ret_bool hr.out.symm, e2⟩
  | true =>
    have hr := hid (show mrkB X Mk = rsB Mk by rw [mrkB, hb]; rfl)
    replace hb := hid hb
    go_enter Try.func28, Try.ntmps28
    go_wp2_with fail
    with_reducible refine (areBelow_any (w0 := w0) hM' (by omega) (by omega)).mono ?_
    rw [hb.out]
    rintro e w2 ⟨rfl, e2⟩
    have e02 : Ext w0 w2 := Ext.trans ‹Ext w0 w› e2
    go_wp2_with fail
    with_reducible refine (isRising_any (w0 := w0) (w := w2) hM').mono ?_
    rintro e w3 ⟨rfl, e3⟩
    go_wp2_with fail
    go_ret
    exact ⟨ret_bool hr.out.symm, Ext.trans e2 e3⟩

/-- the bound of marks, if they are valid -/
def mbOk (k n : Int) (X Mk : List Int) : Bool := pagB k n X && mrkB X Mk
def mbR (k n : Int) (X Mk : List Int) : Int := if mbOk k n X Mk then mbTo k (dfN X) X Mk Mk.length else 0
theorem mrk_len {X Mk : List Int} (h : mrkB X Mk = true) (hl : X.length ≤ 60) : Mk.length ≤ 60 := by
  simp only [mrkB, Bool.and_eq_true] at h
  obtain ⟨h1, h2⟩ := h
  have hr := rsg_iff.2 (rsB_iff.1 h2)
  have key : ∀ t : Nat, t < Mk.length → (t : Int) ≤ nth Mk t := by
    intro t
    induction t with
    | zero => intro ht; have := belowB_at h1 ht; simp; omega
    | succ t ih =>
      intro ht
      have := ih (by omega)
      have := hr t ht
      omega
  by_cases h0 : Mk.length = 0
  · omega
  · have := key (Mk.length - 1) (by omega)
    have := belowB_at h1 (k := Mk.length - 1) (by omega)
    omega

set_option maxHeartbeats 800000 in
set_option maxRecDepth 100000 in
theorem implMB_any {vX vM : Value} {k n : Int} {X Mk : List Int} {w0 w : World} [Ext w0 w] (_hk : I64 k) (_hn : I64 n) (hX : IsInts w0 vX X) (hM : IsInts w0 vM Mk) :
    Calls Try.prog 8 #[.int .i64 k, .int .i64 n, vX, vM] w fun e w' => e = .returned (.tuple #[.int .i64 (mbR k n X Mk), .bool (mbOk k n X Mk)]) ∧ Ext w w' := by
  cases hp : pagB k n X with
  | false =>
    have hr := hid (show mbOk k n X Mk = false by rw [mbOk, hp]; rfl)
    have hv := hid (show mbR k n X Mk = 0 by rw [mbR, hr.out]; rfl)
    replace hp := hid hp
    go_enter Try.func8, Try.ntmps8
    go_wp2_with fail
    with_reducible refine (isPaging_any (w0 := w0) hX).mono ?_
    rw [hp.out]
    rintro e w2 ⟨rfl, e2⟩
    go_wp2_with fail
    go_ret2
    rw [hr.out, hv.out]
    exact ⟨rfl, e2⟩
  | true =>
    cases hm : mrkB X Mk with
    | false =>
      have hr := hid (show mbOk k n X Mk = false by rw [mbOk, hp, hm]; rfl)
      have hv := hid (show mbR k n X Mk = 0 by rw [mbR, hr.out]; rfl)
      replace hp := hid hp
      replace hm := hid hm
      go_enter Try.func8, Try.ntmps8
      go_wp2_with fail
      with_reducible refine (isPaging_any (w0 := w0) hX).mono ?_
      rw [hp.out]
      rintro e w2 ⟨rfl, e2⟩
      have e02 : Ext w0 w2 := Ext.trans ‹Ext w0 w› e2
      go_wp2_with fail
      with_reducible refine (areMarksOf_any (w0 := w0) (w := w2) hX hM).mono ?_
      rw [hm.out]
      rintro e w3 ⟨rfl, e3⟩
      go_wp2_with fail
      go_ret2
      rw [hr.out, hv.out]
      exact ⟨rfl, Ext.trans e2 e3⟩
    | true =>
      have hr := hid (show mbOk k n X Mk = true by rw [mbOk, hp, hm]; rfl)
      have hv := hid (show mbR k n X Mk = mbTo k (dfN X) X Mk Mk.length by rw [mbR, hr.out]; rfl)
      obtain ⟨hk2, hn2, hl, _⟩ := pagB_in hp
      have hml := mrk_len hm hl
      have hbl : belowB X.length Mk = true := by simp only [mrkB, Bool.and_eq_true] at hm; exact hm.1
      replace hp := hid hp
      replace hm := hid hm
      replace hbl := hid hbl
      go_enter Try.func8, Try.ntmps8
      go_wp2_with fail
      with_reducible refine (isPaging_any (w0 := w0) hX).mono ?_
      rw [hp.out]
      rintro e w2 ⟨rfl, e2⟩
      have e02 : Ext w0 w2 := Ext.trans ‹Ext w0 w› e2
      go_wp2_with fail
      with_reducible refine (areMarksOf_any (w0 := w0) (w := w2) hX hM).mono ?_
      rw [hm.out]
      rintro e w3 ⟨rfl, e3⟩
      have e03 : Ext w0 w3 := Ext.trans e02 e3
      go_wp2_with fail
      with_reducible refine (marksBound_any (w0 := w0) (w := w3) hX hM hl hml hk2 hbl.out).mono ?_
      rintro e w4 ⟨rfl, e4⟩
      go_wp2_with fail
      go_ret2
      rw [hr.out, hv.out]
      exact ⟨rfl, Ext.trans e2 (Ext.trans e3 e4)⟩
end Go.Proofs.Ytkibmjenjgijmab
