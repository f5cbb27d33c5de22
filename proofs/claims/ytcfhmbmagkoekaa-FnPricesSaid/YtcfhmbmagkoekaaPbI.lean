/- The bound of prices: PriceBound of the program. -/
import Derived.Test.YtcfhmbmagkoekaaChn
import Derived.Test.YtcfhmbmagkoekaaAsP
import Derived.Test.YtcfhmbmagkoekaaGrJ
namespace Go.Proofs.Ytcfhmbmagkoekaa
open Go.RowKit

/-- a row may have the columns of the servers and of the rows ahead of it -/
def alB (k : Nat) (i l : Nat) : Bool := decide (l < k + i)
def pbOk (M : List (List Int)) (a X P : List Int) : Bool := srvB M a X && (decide (P.length = X.length) && belowB 100000 P)
def rnt (M : List (List Int)) (a X P : List Int) (l i : Nat) : Int := rentOf (alB a.length) (flC M a X) (nth P) l i
def pbTo (M : List (List Int)) (a X P : List Int) (t : Nat) : Int := sgTo (nth P) X.length - sgTo (fun l => rnt M a X P l X.length) t
def pbR (M : List (List Int)) (a X P : List Int) : Int := if pbOk M a X P then pbTo M a X P (a.length + X.length) else 0
theorem rnt_bd {M : List (List Int)} {a X P : List Int} (hs : srvB M a X = true) (hP : belowB 100000 P = true) (hl : P.length = X.length) {l i : Nat} (hll : l < a.length + X.length) (hi : i ≤ X.length) : 0 ≤ rnt M a X P l i ∧ rnt M a X P l i ≤ 99999 := by
  obtain ⟨hM, hal, hab, hXb, hXl⟩ := srv_pts hs
  refine ⟨rent_ge.1, rent_le (by omega) fun j hj ha => ?_⟩
  have h1 := belowB_at hP (k := j) (by omega)
  have h2 := flC_bd hM hab hXb (i := j) (k := l) (by omega) hll
  omega
theorem rnt_step {M : List (List Int)} {a X P : List Int} (hs : srvB M a X = true) (hP : belowB 100000 P = true) (hl : P.length = X.length) {l i : Nat} (hll : l < a.length + X.length) (hi : i < X.length) : rnt M a X P l (i + 1) = max (rnt M a X P l i) (nth P i - flC M a X i l) := by
  have h0 := rnt_bd hs hP hl hll (i := i) (by omega)
  have h1 := belowB_at hP (k := i) (by omega)
  unfold rnt
  simp only [rentOf]
  by_cases e : l < a.length + i
  · rw [if_pos (by unfold alB; exact decide_eq_true e)]
  · rw [if_neg (by unfold alB; simp; omega)]
    have : flC M a X i l = 1073741824 := by unfold flC; rw [if_neg e]
    rw [this]
    have h0' : 0 ≤ rentOf (alB a.length) (flC M a X) (nth P) l i := h0.1
    omega
theorem prs_bd {P : List Int} (hP : belowB 100000 P = true) : ∀ {i : Nat}, i ≤ P.length → 0 ≤ sgTo (nth P) i ∧ sgTo (nth P) i ≤ 99999 * (i : Int)
  | 0, _ => by simp [sgTo]
  | i + 1, h => by
    have h1 := prs_bd hP (i := i) (by omega)
    have h2 := belowB_at hP (k := i) (by omega)
    rw [sgTo]
    omega
theorem rts_bd {M : List (List Int)} {a X P : List Int} (hs : srvB M a X = true) (hP : belowB 100000 P = true) (hl : P.length = X.length) : ∀ {t : Nat}, t ≤ a.length + X.length → 0 ≤ sgTo (fun l => rnt M a X P l X.length) t ∧ sgTo (fun l => rnt M a X P l X.length) t ≤ 99999 * (t : Int)
  | 0, _ => by simp [sgTo]
  | t + 1, h => by
    have h1 := rts_bd hs hP hl (t := t) (by omega)
    have h2 := rnt_bd hs hP hl (l := t) (i := X.length) (by omega) (Nat.le_refl _)
    rw [sgTo]
    omega
set_option maxHeartbeats 1600000 in
set_option maxRecDepth 100000 in
theorem implPb_any {v va vX vP : Value} {M : List (List Int)} {a X P : List Int} {w0 w : World} [Ext w0 w] (hm : IsMet w0 v M) (ha : IsInts w0 va a) (hXi : IsInts w0 vX X) (hp : IsInts w0 vP P) :
    Calls Try.prog 24 #[v, va, vX, vP] w fun e w' => e = .returned (.tuple #[.int .i64 (pbR M a X P), .bool (pbOk M a X P)]) ∧ Ext w w' := by
  have hm' := hm
  obtain ⟨v1, rfl, hR⟩ := hm
  obtain ⟨a1, c1, rfl, l1⟩ := hR.form
  have hp' := hp
  obtain ⟨dp, mp, rfl, lp⟩ := hp.form
  have ha' := ha
  obtain ⟨da, ma, rfl, la⟩ := ha.form
  have hX' := hXi
  obtain ⟨dx, mx, rfl, lx⟩ := hXi.form
  go_enter Try.func24, Try.ntmps24
  go_upto_region 1 with fail
  have e1 : Ext w (w.alloc (.cells #[.slice a1 M.length c1] 29)) := inferInstance
  have x0 : (w.alloc (.cells #[.slice a1 M.length c1] 29)).cell? ⟨w.heap.size, 0, none⟩ = some (.slice a1 M.length c1) := by go_simp
  obtain ⟨bx, hbx⟩ : ∃ q, q = w.heap.size := ⟨_, rfl⟩
  rw [← hbx] at x0 ⊢
  generalize w.alloc (.cells #[.slice a1 M.length c1] 29) = w1 at *
  replace hbx := hid hbx
  have e01 : Ext w0 w1 := Ext.trans ‹Ext w0 w› e1
  cases hs : srvB M a X with
  | false =>
    have hr := hid (show pbOk M a X P = false by rw [pbOk, hs]; rfl)
    have hv := hid (show pbR M a X P = 0 by rw [pbR, hr.out]; rfl)
    replace hs := hid hs
    go_wp2_with fail
    with_reducible refine (isServed_any (w0 := w0) hm' ha' hX').mono ?_
    rw [hs.out]
    rintro e w2 ⟨rfl, e2⟩
    go_wp2_with fail
    go_ret2
    rw [hr.out, hv.out]
    exact ⟨rfl, Ext.trans e1 e2⟩
  | true =>
    obtain ⟨hM, hal, hab, hXb, hXl⟩ := srv_pts hs
    have hs2 := hid hs
    clear hs
    replace hM := hid hM
    replace hab := hid hab
    replace hXb := hid hXb
    by_cases hlen : P.length = X.length
    · have hln : ((P.length : Int) != (X.length : Int)) = false := by simp; omega
      cases hb : belowB 100000 P with
      | false =>
        have hr := hid (show pbOk M a X P = false by rw [pbOk, hb]; simp)
        have hv := hid (show pbR M a X P = 0 by rw [pbR, hr.out]; rfl)
        replace hb := hid hb
        replace hlen := hid hlen
        go_wp2_with fail
        with_reducible refine (isServed_any (w0 := w0) hm' ha' hX').mono ?_
        rw [hs2.out]
        rintro e w2 ⟨rfl, e2⟩
        have e02 : Ext w0 w2 := Ext.trans e01 e2
        go_wp2_with fail
        with_reducible refine (isSmall_any (w0 := w0) hp').mono ?_
        rw [hb.out]
        rintro e w3 ⟨rfl, e3⟩
        go_wp2_with fail
        go_ret2
        rw [hr.out, hv.out]
        exact ⟨rfl, Ext.trans e1 (Ext.trans e2 e3)⟩
      | true =>
        have hr := hid (show pbOk M a X P = true by rw [pbOk, hs2.out, hb, decide_eq_true hlen]; rfl)
        have hv := hid (show pbR M a X P = pbTo M a X P (a.length + X.length) by rw [pbR, hr.out]; rfl)
        have hB1 := hid (fun (i : Nat) (h : i ≤ P.length) => prs_bd hb h)
        have hB2 := hid (fun (t : Nat) (h : t ≤ a.length + X.length) => rts_bd hs2.out hb hlen h)
        have hB3 := hid (fun (l i : Nat) (h : l < a.length + X.length) (hi : i ≤ X.length) => rnt_bd hs2.out hb hlen h hi)
        have hB4 := hid (fun (l i : Nat) (h : l < a.length + X.length) (hi : i < X.length) => rnt_step hs2.out hb hlen h hi)
        have hB5 := hid (fun (k : Nat) (h : k < P.length) => belowB_at hb h)
        have hlen2 : P.length ≤ X.length ∧ X.length ≤ P.length := by omega
        replace hb := hid hb
        replace hlen := hid hlen
        go_wp2_with fail
        with_reducible refine (isServed_any (w0 := w0) hm' ha' hX').mono ?_
        rw [hs2.out]
        rintro e w2 ⟨rfl, e2⟩
        have e02 : Ext w0 w2 := Ext.trans e01 e2
        go_wp2_with fail
        with_reducible refine (isSmall_any (w0 := w0) hp').mono ?_
        rw [hb.out]
        rintro e w3 ⟨rfl, e3⟩
        have x3 := e3.cell (e2.cell x0)
        have e13 : Ext w w3 := Ext.trans e1 (Ext.trans e2 e3)
        have e03 : Ext w0 w3 := Ext.trans ‹Ext w0 w› e13
        go_wp2_with fail
        with_reducible refine (flowOf_any (w0 := w0) (w := w3) hm' ha' hX' hM.out hab.out hXb.out hal hXl).mono ?_
        rintro e w4 ⟨bp, cv, B, rfl, tab, hB, e4⟩
        have e14 : Ext w w4 := Ext.trans e13 e4
        have e04 : Ext w0 w4 := Ext.trans ‹Ext w0 w› e14
        have y1 : w4.cell? ⟨bp, 1, none⟩ = some cv := (tab.boxAt (j := 1) (by omega)).1
        have hF : IsRows w4 cv (flL M a X) := tab.reads (by unfold ShortRows; rw [flL_len]; omega) (fun r hr => by
          obtain ⟨i, hi, rfl⟩ := List.mem_map.1 hr
          unfold Short; rw [flRow_len]; omega) (flL_i64 hM.out hab.out hXb.out)
        obtain ⟨dF, nF, mF, rfl, hnF⟩ := tab.formN
        have hnX : nF = X.length := by rw [hnF.out, flL_len]
        subst hnX
        have hfl := hid (flL_len M a X)
        clear tab hnF x3
        go_wp2_with fail
        go_loopw [11, 41] (fun s q wr => ∃ i : Nat, i ≤ P.length ∧ q = .int .i64 i ∧ s = .int .i64 (sgTo (nth P) i) ∧ Ext w4 wr) (fun _ q _ => P.length - (intOf q).toNat)
        case atStart => exact ⟨0, by omega, rfl, rfl, Ext.refl _⟩
        case round =>
          obtain ⟨i, hi, rfl, rfl, he⟩ := hrel
          obtain ⟨wo, rfl⟩ : ∃ y : World, y = wr := ⟨_, rfl⟩
          have e0 : Ext w0 wo := Ext.trans e04 he
          have b1 := hB1.out i (by omega)
          by_cases hlt : i < P.length
          · obtain ⟨bb, ob, hdb, hcb⟩ := hp'.at (w' := wo) hlt
            cases hdb
            have b5 := hB5.out i hlt
            have hst := hid (show sgTo (nth P) (i + 1) = sgTo (nth P) i + nth P i from rfl)
            generalize nth P i = y at hcb b5 hst
            generalize sgTo (nth P) i = S at b1 hst ⊢
            go_wp2_with fail
            go_roundw
            case rel => exact ⟨i + 1, by omega, by go_num, by rw [hst.out], he⟩
            case measure => simp [intOf]; omega
          · have hil : i = X.length := by omega
            subst hil
            have y2 := he.cell y1
            have hF2 := hF.ext (e := he)
            clear b1 hlt
            have b0 := hB1.out X.length (by omega)
            obtain ⟨S, hS⟩ : ∃ s, s = sgTo (nth P) X.length := ⟨_, rfl⟩
            rw [← hS] at b0 ⊢
            have hpb := hid (fun (t : Nat) => show pbTo M a X P t = S - sgTo (fun l => rnt M a X P l X.length) t by rw [pbTo, ← hS])
            replace hS := hid hS
            go_wp2_with fail
            go_loopw [11, 54] (fun s q wr => ∃ t : Nat, t ≤ a.length + X.length ∧ q = .int .i64 t ∧ s = .int .i64 (S - sgTo (fun l => rnt M a X P l X.length) t) ∧ Ext wo wr) (fun _ q _ => a.length + X.length - (intOf q).toNat)
            case atStart => exact ⟨0, by omega, rfl, by simp [sgTo], Ext.refl _⟩
            case round =>
              obtain ⟨t, ht, rfl, rfl, he2⟩ := hrel
              obtain ⟨wq, rfl⟩ : ∃ y : World, y = wr := ⟨_, rfl⟩
              have b2 := hB2.out t (by omega)
              by_cases hlt2 : t < a.length + X.length
              · have hst2 := hid (show sgTo (fun l => rnt M a X P l X.length) (t + 1) = sgTo (fun l => rnt M a X P l X.length) t + rnt M a X P t X.length from rfl)
                generalize sgTo (fun l => rnt M a X P l X.length) t = T at b2 hst2 ⊢
                have y3 := he2.cell y2
                go_wp2_with fail
                go_loopw [15, 62] (fun s q wr => ∃ i : Nat, i ≤ X.length ∧ q = .int .i64 i ∧ s = .int .i64 (rnt M a X P t i) ∧ Ext wq wr) (fun _ q _ => X.length - (intOf q).toNat)
                case atStart => exact ⟨0, by omega, rfl, rfl, Ext.refl _⟩
                case round =>
                  obtain ⟨i, hi, rfl, rfl, he3⟩ := hrel
                  obtain ⟨wz, rfl⟩ : ∃ y : World, y = wr := ⟨_, rfl⟩
                  have b3 := hB3.out t i hlt2 hi
                  have ez : Ext wo wz := Ext.trans he2 he3
                  by_cases hlt3 : i < X.length
                  · obtain ⟨bf, of, df, mf, hdf, hcf, hif, hlf⟩ := hF2.at (w' := wz) (k := i) (by rw [hfl.out]; exact hlt3)
                    cases hdf
                    rw [flL_at hlt3, flRow_len] at hcf hif
                    obtain ⟨bg, og, hdg, hcg⟩ := hif.at (w' := wz) (k := t) (by rw [flRow_len]; omega)
                    cases hdg
                    rw [flRow_at (by omega)] at hcg
                    have e0z : Ext w0 wz := Ext.trans e0 ez
                    obtain ⟨bb, ob, hdb, hcb⟩ := hp'.at (w' := wz) (k := i) (by omega)
                    cases hdb
                    have hfb := flC_bd hM.out hab.out hXb.out (i := i) (k := t) hlt3 (by omega)
                    have b5 := hB5.out i (by omega)
                    have hst3 := hid (hB4.out t i hlt2 hlt3)
                    have hPi : i < P.length := by omega
                    generalize nth P i = y at hcb b5 hst3
                    generalize flC M a X i t = z at hcg hfb hst3
                    generalize rnt M a X P t i = Rn at b3 hst3 ⊢
                    have s1 : IntKind.i64.wrap (y - z) = y - z := IntWalk.i64_in _ (by omega)
                    clear hif
                    go_wp2_with (go_quiet (fail))
                    go_roundw
                    case rel => exact ⟨i + 1, by omega, by go_num, by rw [hst3.out], Ext.trans he3 inferInstance⟩
                    case measure => simp [intOf]; omega
                  · have hil : i = X.length := by omega
                    subst hil
                    clear hlt3
                    generalize rnt M a X P t X.length = Rn at b3 hst2 ⊢
                    go_wp2_with fail
                    go_roundw
                    case rel => exact ⟨t + 1, by omega, by go_num, by rw [hst2.out]; congr 1; omega, ez⟩
                    case measure => simp [intOf]; omega
              · have htl : t = a.length + X.length := by omega
                have hfin := hid (show pbR M a X P = S - sgTo (fun l => rnt M a X P l X.length) t by rw [hv.out, hpb.out, htl])
                replace htl := hid htl
                generalize sgTo (fun l => rnt M a X P l X.length) t = T at b2 hfin ⊢
                go_wp2_with fail
                go_ret2
                rw [hr.out, hfin.out]
                exact ⟨rfl, Ext.trans e14 (Ext.trans he he2)⟩
    · have hln : ((P.length : Int) != (X.length : Int)) = true := by simp; omega
      have hr := hid (show pbOk M a X P = false by rw [pbOk, decide_eq_false hlen]; simp)
      have hv := hid (show pbR M a X P = 0 by rw [pbR, hr.out]; rfl)
      replace hlen := hid hlen
      go_wp2_with fail
      with_reducible refine (isServed_any (w0 := w0) hm' ha' hX').mono ?_
      rw [hs2.out]
      rintro e w2 ⟨rfl, e2⟩
      go_wp2_with fail
      go_ret2
      rw [hr.out, hv.out]
      exact ⟨rfl, Ext.trans e1 e2⟩
end Go.Proofs.Ytcfhmbmagkoekaa
