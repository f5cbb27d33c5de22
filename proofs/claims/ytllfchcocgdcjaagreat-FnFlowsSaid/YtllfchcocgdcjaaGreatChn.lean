/- The cost of a chain list: both sides. -/
import Derived.Test.YtllfchcocgdcjaaGreatChP
import Derived.Test.YtllfchcocgdcjaaGreatFlo
import Derived.Test.YtllfchcocgdcjaaGreatRis
import Derived.Test.YtllfchcocgdcjaaGreatGrF
import Derived.Test.YtllfchcocgdcjaaGreatSrs
import Derived.Test.YtllfchcocgdcjaaGreatGrI
namespace Go.Proofs.YtllfchcocgdcjaaGreat
open Go.RowKit

/-- what the first t of a chain list cost -/
def ccTo (M : List (List Int)) (a X b : List Int) (t : Nat) : Int := sgTo (fun i => flC M a X i (nth b i).toNat) t
def ccOk (M : List (List Int)) (a X b : List Int) : Bool := srvB M a X && chnB a.length X b
def ccR (M : List (List Int)) (a X b : List Int) : Int := if ccOk M a X b then ccTo M a X b X.length else 0
theorem srv_pts {M : List (List Int)} {a X : List Int} (h : srvB M a X = true) : metB M = true ∧ (1 ≤ a.length ∧ a.length ≤ 3) ∧ (∀ x ∈ a, 0 ≤ x ∧ x < (M.length : Int)) ∧ (∀ x ∈ X, 0 ≤ x ∧ x < (M.length : Int)) ∧ X.length ≤ 60 := by
  obtain ⟨h1, h2, h3, h4⟩ := srvB_iff.1 h
  obtain ⟨hd, hk, hc, hX, hl⟩ := srv_all h
  obtain ⟨_, hp⟩ := conf_pts hc
  exact ⟨h1, hk, hp, fun x hx => by
    obtain ⟨j, hj, rfl⟩ := mem_iff_nth.1 hx
    exact hX j hj, hl⟩

set_option maxHeartbeats 800000 in
set_option maxRecDepth 100000 in
theorem isChain_any {vb : Value} {bp n m : Nat} {d : Option Addr} {a X b : List Int} {w0 w : World} [Ext w0 w] (h0 : w0.cell? ⟨bp, 0, none⟩ = some (.int .i64 a.length)) (h1 : w0.cell? ⟨bp, 1, none⟩ = some (.slice d n m)) (hn : n = X.length) (hb : IsInts w0 vb b) (hal : a.length ≤ 3) (hXl : X.length ≤ 60) :
    Calls Tryz.prog 20 #[.pointer (some ⟨bp, 0, none⟩), vb] w fun e w' => e = .returned (.bool (chnB a.length X b)) ∧ Ext w w' := by
  subst hn
  have hb' := hb
  obtain ⟨db, mb, rfl, lb⟩ := hb.form
  have c0 := (‹Ext w0 w›).cell h0
  have c1 := (‹Ext w0 w›).cell h1
  by_cases hl : b.length = X.length
  · by_cases hdl : (difL b).length = b.length
    · have g1 : (b.length != X.length) = false := by simp; omega
      have g1' : ((b.length : Int) != (X.length : Int)) = false := by simp; omega
      have hbl : b.length ≤ 60 := by omega
      have hyes := hid (fun h : ∀ i : Nat, i < b.length → 0 ≤ nth b i ∧ nth b i < (a.length : Int) + i => show chnB a.length X b = true from chn_iff.2 ⟨hl, hdl, h⟩)
      have hno := hid (fun (i : Nat) (hi : i < b.length) (h : ¬ (0 ≤ nth b i ∧ nth b i < (a.length : Int) + i)) => show chnB a.length X b = false from chn_not fun hc => h (hc.2.2 i hi))
      have hdl2 := hid hdl
      replace hl := hid hl
      clear hdl
      go_enter Tryz.func20, Tryz.ntmps20
      go_wp2_with fail
      with_reducible refine (rising_any (w0 := w0) hb').mono ?_
      rintro e w1 ⟨d1, m1, rfl, hr1, e1⟩
      clear hr1
      rw [hdl2.out]
      have g2 : (b.length != b.length) = false := by simp
      go_wp2_with fail
      go_loopw [25] (fun q wr => ∃ i : Nat, i ≤ b.length ∧ q = .int .i64 i ∧ Hid (∀ j : Nat, j < i → 0 ≤ nth b j ∧ nth b j < (a.length : Int) + j) ∧ Ext w1 wr) (fun q _ => b.length - (intOf q).toNat)
      case atStart => exact ⟨0, by omega, rfl, fun j hj => by omega, Ext.refl _⟩
      case round =>
        obtain ⟨i, hi, rfl, hok, he⟩ := hrel
        obtain ⟨wo, rfl⟩ : ∃ y : World, y = wr := ⟨_, rfl⟩
        have ew : Ext w wo := Ext.trans e1 he
        have e0 : Ext w0 wo := Ext.trans ‹Ext w0 w› ew
        by_cases hlt : i < b.length
        · obtain ⟨bb, ob, hdb, hcb⟩ := hb'.at (w' := wo) hlt
          cases hdb
          have y0 := ew.cell c0
          have hin : inB (nth b i) 0 ((a.length : Int) + i - 1) = decide (0 ≤ nth b i ∧ nth b i < (a.length : Int) + i) := by
            unfold inB
            congr 1
            apply propext
            omega
          by_cases hg : 0 ≤ nth b i ∧ nth b i < (a.length : Int) + i
          · rw [decide_eq_true hg] at hin
            have hok2 := hid (show ∀ j : Nat, j < i + 1 → 0 ≤ nth b j ∧ nth b j < (a.length : Int) + j from fun j hj => by
              by_cases e : j = i
              · subst e; exact hg
              · exact hok.out j (by omega))
            replace hin := hid hin
            go_wp2_with fail
            with_reducible refine (within_any _ _ _ _).mono ?_
            rw [hin.out]
            rintro e w2 ⟨rfl, rfl⟩
            go_wp2_with fail
            go_roundw
            case rel => exact ⟨i + 1, by omega, by go_num, hok2.out, he⟩
            case measure => simp [intOf]; omega
          · rw [decide_eq_false hg] at hin
            have hfin := hid (hno.out i hlt hg)
            replace hin := hid hin
            replace hg := hid hg
            go_wp2_with fail
            with_reducible refine (within_any _ _ _ _).mono ?_
            rw [hin.out]
            rintro e w2 ⟨rfl, rfl⟩
            go_wp2_with fail
            go_ret
            exact ⟨ret_bool hfin.out.symm, ew⟩
        · have hil : i = b.length := by omega
          have hfin := hid (hyes.out fun j hj => hok.out j (by omega))
          replace hil := hid hil
          go_wp2_with fail
          go_ret
          exact ⟨ret_bool hfin.out.symm, ew⟩
    · have hfin := hid (show chnB a.length X b = false from chn_not fun hc => hdl hc.2.1)
      have g1 : (b.length != X.length) = false := by simp; omega
      have g1' : ((b.length : Int) != (X.length : Int)) = false := by simp; omega
      obtain ⟨D, hD⟩ : ∃ D, D = (difL b).length := ⟨_, rfl⟩
      rw [← hD] at hdl
      have g2 : (D != b.length) = true := by simpa using hdl
      have g2' : ((D : Int) != (b.length : Int)) = true := by simp; omega
      have hDb : D ≤ b.length := by rw [hD]; exact difL_len b
      replace hdl := hid hdl
      replace hl := hid hl
      go_enter Tryz.func20, Tryz.ntmps20
      go_wp2_with fail
      with_reducible refine (rising_any (w0 := w0) hb').mono ?_
      rintro e w1 ⟨d1, m1, rfl, hr1, e1⟩
      clear hr1
      rw [← hD]
      replace hD := hid hD
      go_wp2_with fail
      go_ret
      exact ⟨ret_bool hfin.out.symm, e1⟩
  · have hfin := hid (show chnB a.length X b = false from chn_not fun hc => hl hc.1)
    have g1 : (b.length != X.length) = true := by simp; omega
    have g1' : ((b.length : Int) != (X.length : Int)) = true := by simp; omega
    replace hl := hid hl
    go_enter Tryz.func20, Tryz.ntmps20
    go_wp2_with fail
    go_ret
    exact ⟨ret_bool hfin.out.symm, Ext.refl _⟩

theorem ccTo_bd {M : List (List Int)} {a X b : List Int} (hs : srvB M a X = true) (hc : chnB a.length X b = true) : ∀ {t : Nat}, t ≤ X.length → 0 ≤ ccTo M a X b t ∧ ccTo M a X b t ≤ 99 * (t : Int)
  | 0, _ => by simp [ccTo, sgTo]
  | t + 1, ht => by
    have ih := ccTo_bd hs hc (t := t) (by omega)
    obtain ⟨h1, _, h3, h4, _⟩ := srv_pts hs
    obtain ⟨c1, _, c3⟩ := chn_iff.1 hc
    have hb := c3 t (by omega)
    have := flC_bd h1 h3 h4 (i := t) (k := (nth b t).toNat) (by omega) (by omega)
    simp only [ccTo, sgTo] at ih ⊢
    have h2 := this.2.1 (by omega)
    omega
theorem flRow_at {M : List (List Int)} {a X : List Int} {i k : Nat} (hk : k < a.length + X.length) : nth (flRow M a X i) k = flC M a X i k := by
  simp [flRow, nth, hk]

set_option maxHeartbeats 800000 in
set_option maxRecDepth 100000 in
theorem implCC_any {v va vX vb : Value} {M : List (List Int)} {a X b : List Int} {w0 w : World} [Ext w0 w] (hm : IsMet w0 v M) (ha : IsInts w0 va a) (hXi : IsInts w0 vX X) (hb : IsInts w0 vb b) :
    Calls Tryz.prog 6 #[v, va, vX, vb] w fun e w' => e = .returned (.tuple #[.int .i64 (ccR M a X b), .bool (ccOk M a X b)]) ∧ Ext w w' := by
  have hm' := hm
  obtain ⟨v1, rfl, hR⟩ := hm
  obtain ⟨a1, c1, rfl, l1⟩ := hR.form
  have hb' := hb
  obtain ⟨db, mb, rfl, lb⟩ := hb.form
  go_enter Tryz.func6, Tryz.ntmps6
  go_upto_region 1 with fail
  have e1 : Ext w (w.alloc (.cells #[.slice a1 M.length c1] 26)) := inferInstance
  have x0 : (w.alloc (.cells #[.slice a1 M.length c1] 26)).cell? ⟨w.heap.size, 0, none⟩ = some (.slice a1 M.length c1) := by go_simp
  obtain ⟨bx, hbx⟩ : ∃ q, q = w.heap.size := ⟨_, rfl⟩
  rw [← hbx] at x0 ⊢
  generalize w.alloc (.cells #[.slice a1 M.length c1] 26) = w1 at *
  replace hbx := hid hbx
  have e01 : Ext w0 w1 := Ext.trans ‹Ext w0 w› e1
  cases hs : srvB M a X with
  | false =>
    have hr := hid (show ccOk M a X b = false by rw [ccOk, hs]; rfl)
    have hv := hid (show ccR M a X b = 0 by rw [ccR, hr.out]; rfl)
    replace hs := hid hs
    go_wp2_with fail
    with_reducible refine (isServed_any (w0 := w0) hm' ha hXi).mono ?_
    rw [hs.out]
    rintro e w2 ⟨rfl, e2⟩
    go_wp2_with fail
    go_ret2
    rw [hr.out, hv.out]
    exact ⟨rfl, Ext.trans e1 e2⟩
  | true =>
    obtain ⟨hM, hal, hab, hXb, hXl⟩ := srv_pts hs
    have hs2 := hid hs
    clear hs
    replace hM := hid hM
    replace hab := hid hab
    replace hXb := hid hXb
    go_wp2_with fail
    with_reducible refine (isServed_any (w0 := w0) hm' ha hXi).mono ?_
    rw [hs2.out]
    rintro e w2 ⟨rfl, e2⟩
    have x2 := e2.cell x0
    have e12 : Ext w w2 := Ext.trans e1 e2
    have e02 : Ext w0 w2 := Ext.trans ‹Ext w0 w› e12
    go_wp2_with fail
    with_reducible refine (flowOf_any (w0 := w0) (w := w2) hm' ha hXi hM.out hab.out hXb.out hal hXl).mono ?_
    rintro e w3 ⟨bp, cv, B, rfl, tab, hB, e3⟩
    have e13 : Ext w w3 := Ext.trans e12 e3
    have e03 : Ext w0 w3 := Ext.trans ‹Ext w0 w› e13
    have y0 : w3.cell? ⟨bp, 0, none⟩ = some (.int .i64 a.length) := (tab.boxAt (j := 0) (by omega)).1
    have y1 : w3.cell? ⟨bp, 1, none⟩ = some cv := (tab.boxAt (j := 1) (by omega)).1
    have hF : IsRows w3 cv (flL M a X) := tab.reads (by unfold ShortRows; rw [flL_len]; omega) (fun r hr => by
      obtain ⟨i, hi, rfl⟩ := List.mem_map.1 hr
      unfold Short; rw [flRow_len]; omega) (flL_i64 hM.out hab.out hXb.out)
    obtain ⟨dF, nF, mF, rfl, hnF⟩ := tab.formN
    have hnX : nF = X.length := by rw [hnF.out, flL_len]
    subst hnX
    clear tab hnF x2
    cases hc : chnB a.length X b with
    | false =>
      have hr := hid (show ccOk M a X b = false by rw [ccOk, hs2.out, hc]; rfl)
      have hv := hid (show ccR M a X b = 0 by rw [ccR, hr.out]; rfl)
      replace hc := hid hc
      go_wp2_with fail
      with_reducible refine (isChain_any (w0 := w3) (w := w3) y0 y1 rfl (hb'.ext (e := e03)) hal.2 hXl).mono ?_
      rw [hc.out]
      rintro e w4 ⟨rfl, e4⟩
      go_wp2_with fail
      go_ret2
      rw [hr.out, hv.out]
      exact ⟨rfl, Ext.trans e13 e4⟩
    | true =>
      have hr := hid (show ccOk M a X b = true by rw [ccOk, hs2.out, hc]; rfl)
      have hv := hid (show ccR M a X b = ccTo M a X b X.length by rw [ccR, hr.out]; rfl)
      have hbd := hid (fun (t : Nat) (ht : t ≤ X.length) => ccTo_bd (t := t) hs2.out hc ht)
      obtain ⟨k1, _, k3⟩ := chn_iff.1 hc
      have hk3 := hid k3
      have hbl := hid k1
      have hbl2 : b.length ≤ X.length ∧ X.length ≤ b.length := by omega
      have hfl := hid (flL_len M a X)
      replace hc := hid hc
      clear k1 k3
      go_wp2_with fail
      with_reducible refine (isChain_any (w0 := w3) (w := w3) y0 y1 rfl (hb'.ext (e := e03)) hal.2 hXl).mono ?_
      rw [hc.out]
      rintro e w4 ⟨rfl, e4⟩
      have e14 : Ext w w4 := Ext.trans e13 e4
      go_wp2_with fail
      go_loopw [11, 29] (fun s q wr => ∃ i : Nat, i ≤ b.length ∧ q = .int .i64 i ∧ s = .int .i64 (ccTo M a X b i) ∧ Ext w4 wr) (fun _ q _ => b.length - (intOf q).toNat)
      case atStart => exact ⟨0, by omega, rfl, rfl, Ext.refl _⟩
      case round =>
        obtain ⟨i, hi, rfl, rfl, he⟩ := hrel
        obtain ⟨wo, rfl⟩ : ∃ y : World, y = wr := ⟨_, rfl⟩
        have e3o : Ext w3 wo := Ext.trans e4 he
        have e0 : Ext w0 wo := Ext.trans e03 e3o
        have hcb := hbd.out i (by omega)
        by_cases hlt : i < b.length
        · obtain ⟨bb, ob, hdb, hcb2⟩ := hb'.at (w' := wo) hlt
          cases hdb
          obtain ⟨p0, p1⟩ := hk3.out i hlt
          obtain ⟨k, hk⟩ := Int.eq_ofNat_of_zero_le p0
          rw [hk] at hcb2 p1
          have hiX : i < X.length := by omega
          have z1 := e3o.cell y1
          obtain ⟨bf, of, df, mf, hdf, hcf, hif, hlf⟩ := hF.at (w' := wo) (k := i) (by rw [hfl.out]; exact hiX)
          cases hdf
          rw [flL_at hiX, flRow_len] at hcf hif
          obtain ⟨bg, og, hdg, hcg⟩ := hif.at (w' := wo) (k := k) (by rw [flRow_len]; omega)
          cases hdg
          rw [flRow_at (by omega)] at hcg
          have hss := hid (show ccTo M a X b (i + 1) = ccTo M a X b i + flC M a X i k by
            simp only [ccTo, sgTo, hk, Int.toNat_natCast])
          have hfb := flC_bd hM.out hab.out hXb.out (i := i) (k := k) hiX (by omega)
          have hfb2 := hfb.2.1 (by omega)
          obtain ⟨S, hS⟩ : ∃ s, s = ccTo M a X b i := ⟨_, rfl⟩
          obtain ⟨y, hy⟩ : ∃ y, y = flC M a X i k := ⟨_, rfl⟩
          rw [← hS] at hcb ⊢
          rw [← hy] at hcg hfb hfb2
          have hss2 := hid (show ccTo M a X b (i + 1) = S + y by rw [hss.out, ← hS, ← hy])
          have hNn : k < a.length + X.length := by omega
          replace hS := hid hS
          replace hy := hid hy
          replace hk := hid hk
          clear hss hif
          go_wp2_with fail
          go_roundw
          case rel => exact ⟨i + 1, by omega, by go_num, by rw [hss2.out], he⟩
          case measure => simp [intOf]; omega
        · have hil : i = X.length := by omega
          have hfin := hid (show ccR M a X b = ccTo M a X b i by rw [hv.out, hil])
          replace hil := hid hil
          clear hcb
          go_wp2_with fail
          go_ret2
          rw [hr.out, hfin.out]
          exact ⟨rfl, Ext.trans e14 he⟩

end Go.Proofs.YtllfchcocgdcjaaGreat
