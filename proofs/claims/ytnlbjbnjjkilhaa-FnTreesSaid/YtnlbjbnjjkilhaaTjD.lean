/- Isometries, walked: IsIsometry of both. -/
import Derived.Test.YtnlbjbnjjkilhaaTjC
import Derived.Test.YtnlbjbnjjkilhaaTjA
namespace Go.Proofs.Ytnlbjbnjjkilhaa
open Go.RowKit

def okI (M : List (List Int)) (T : List Int) : Bool := metB M && pmB M.length T
def isI (M : List (List Int)) (T : List Int) : Bool := okI M T && decide (∀ x, x < M.length → ∀ y, y < M.length → cell M (nth T x).toNat (nth T y).toNat = cell M x y)
def ISPost (M : List (List Int)) (T : List Int) (w : World) (e : Ending) (w' : World) : Prop := e = .returned (.tuple #[.bool (isI M T), .bool (okI M T)]) ∧ Ext w w'
theorem pm_in {n : Nat} {T : List Int} (h : pmB n T = true) : T.length = n ∧ ∀ x, x < n → ∃ t : Nat, nth T x = (t : Int) ∧ t < n := by
  have h2 := h
  rw [← orQ_pm] at h2
  unfold orQ belowB at h2
  simp only [Bool.and_eq_true, decide_eq_true_eq, inB] at h2
  unfold pmB at h
  simp only [Bool.and_eq_true, decide_eq_true_eq] at h
  refine ⟨h.1, fun x hx => ?_⟩
  have hm : nth T x ∈ T := by
    have hxl : x < T.length := by omega
    have : nth T x = T[x] := by simp [nth, hxl]
    rw [this]; exact List.getElem_mem hxl
  have := h2.2.1 _ hm
  exact ⟨(nth T x).toNat, by omega, by omega⟩
set_option maxHeartbeats 3200000 in
set_option maxRecDepth 100000 in
theorem implIS_any {v vt : Value} {M : List (List Int)} {T : List Int} {w0 w : World} [Ext w0 w] (hm : IsMet w0 v M) (hT : IsInts w0 vt T) :
    Calls Try.prog 12 #[v, vt] w (ISPost M T w) := by
  have hm' := hm
  have hT' := hT
  have hn6 := hid (fun (hM : metB M = true) => met_len hM)
  have hpm := hid (fun (h : pmB M.length T = true) => pm_in h)
  obtain ⟨v1, rfl, hR⟩ := hm
  obtain ⟨a1, c1, rfl, l1⟩ := hR.form
  obtain ⟨dt, mt, rfl, lt⟩ := hT.form
  obtain ⟨PO, hPO⟩ : ∃ P, P = ISPost M T w := ⟨_, rfl⟩
  obtain ⟨n, hn⟩ : ∃ n, n = M.length := ⟨_, rfl⟩
  rw [← hPO]
  have hbad := hid (fun (w' : World) (h : okI M T = false) (e : Ext w w') => show PO (.returned (.tuple #[.bool false, .bool false])) w' by
    rw [hPO]
    refine ⟨?_, e⟩
    unfold isI
    rw [h]; rfl)
  have hno := hid (fun (w' : World) (h : okI M T = true) (q : ¬ ∀ x, x < M.length → ∀ y, y < M.length → cell M (nth T x).toNat (nth T y).toNat = cell M x y) (e : Ext w w') => show PO (.returned (.tuple #[.bool false, .bool true])) w' by
    rw [hPO]
    refine ⟨?_, e⟩
    unfold isI
    rw [h, decide_eq_false q]; rfl)
  have hyes := hid (fun (w' : World) (h : okI M T = true) (q : ∀ x, x < M.length → ∀ y, y < M.length → cell M (nth T x).toNat (nth T y).toNat = cell M x y) (e : Ext w w') => show PO (.returned (.tuple #[.bool true, .bool true])) w' by
    rw [hPO]
    refine ⟨?_, e⟩
    unfold isI
    rw [h, decide_eq_true q]; rfl)
  have hok := hid (show okI M T = (metB M && pmB M.length T) from rfl)
  rw [← hn] at hn6 hR l1 hm' hpm hno hyes hok ⊢
  replace hn := hid hn
  replace hPO := hid hPO
  go_enter Try.func12, Try.ntmps12
  go_upto_region 1 with fail
  have ea : Ext w (w.alloc (.cells #[.slice a1 n c1] 29)) := inferInstance
  have qa : (w.alloc (.cells #[.slice a1 n c1] 29)).cell? ⟨w.heap.size, 0, none⟩ = some (.slice a1 n c1) := by go_simp
  generalize w.alloc (.cells #[.slice a1 n c1] 29) = wa at *
  have e0a : Ext w0 wa := Ext.trans ‹Ext w0 w› ea
  cases hM : metB M with
  | false =>
    have hf := hid (show okI M T = false by rw [hok.out, hM]; rfl)
    replace hM := hid hM
    go_wp2_with fail
    with_reducible refine (IsMetric_any (w0 := w0) hm').mono ?_
    rw [hM.out]
    rintro e w1 ⟨rfl, e1⟩
    have eF : Ext w w1 := Ext.trans ea e1
    go_wp2_with fail
    exact hbad.out _ hf.out eF
  | true =>
    replace hM := hid hM
    have hn7 := hn6.out hM.out
    have hRow := hid (fun x (hx : x < n) => met_cells hR hn.out hM.out hx)
    obtain ⟨bM, oM, _, _, _, ha1, _⟩ := hRow.out 0 (by have := (hn6.out hM.out).1; omega)
    subst ha1
    cases hP : pmB n T with
    | false =>
      have hf := hid (show okI M T = false by rw [hok.out, hM.out, hP]; rfl)
      have hO := hid (show orQ n T = false by rw [orQ_pm, hP])
      replace hP := hid hP
      go_wp2_with fail
      with_reducible refine (IsMetric_any (w0 := w0) hm').mono ?_
      rw [hM.out]
      rintro e w1 ⟨rfl, e1⟩
      have q1 := e1.cell qa
      have e01 : Ext w0 w1 := Ext.trans e0a e1
      go_wp2_with fail
      with_reducible refine (isOrderQ_any (w0 := w0) (w := w1) (n := (n : Int)) hT' (by omega)).mono ?_
      rw [hO.out]
      rintro e w2 ⟨rfl, e2⟩
      have eF : Ext w w2 := Ext.trans (Ext.trans ea e1) e2
      go_wp2_with fail
      exact hbad.out _ hf.out eF
    | true =>
      have hf := hid (show okI M T = true by rw [hok.out, hM.out, hP]; rfl)
      have hO := hid (show orQ n T = true by rw [orQ_pm, hP])
      have hpp := hpm.out hP
      rw [hpp.1] at hT hT' ⊢
      replace hP := hid hP
      go_wp2_with fail
      with_reducible refine (IsMetric_any (w0 := w0) hm').mono ?_
      rw [hM.out]
      rintro e w1 ⟨rfl, e1⟩
      have q1 := e1.cell qa
      have e01 : Ext w0 w1 := Ext.trans e0a e1
      go_wp2_with fail
      with_reducible refine (isOrderQ_any (w0 := w0) (w := w1) (n := (n : Int)) hT' (by omega)).mono ?_
      rw [hO.out]
      rintro e w2 ⟨rfl, e2⟩
      have q2 := e2.cell q1
      have e02 : Ext w0 w2 := Ext.trans e01 e2
      have ew2 : Ext w w2 := Ext.trans (Ext.trans ea e1) e2
      clear e0a ea qa e1 q1 e01 e2
      go_upto_region 4 with fail
      go_loopw [24] (fun xv wr => ∃ x : Nat, xv = .int .i64 x ∧ x ≤ n ∧ Hid (∀ a, a < x → ∀ b, b < n → cell M (nth T a).toNat (nth T b).toNat = cell M a b) ∧ Ext w2 wr) (fun xv _ => n - (intOf xv).toNat)
      case atStart => exact ⟨0, rfl, by omega, hid (fun a ha => by omega), Ext.refl _⟩
      case round =>
        obtain ⟨x, rfl, hx, hxo, ew⟩ := hrel
        obtain ⟨wo, rfl⟩ : ∃ y : World, y = wr := ⟨_, rfl⟩
        have e0o : Ext w0 wo := Ext.trans e02 ew
        by_cases hxl : x < n
        · obtain ⟨_, _, bx0, ox0, mx0, ha, tcx, hir0, vx0⟩ := hRow.out x hxl
          cases ha
          have g0 := tcx wo e0o
          replace vx0 := hid vx0
          clear tcx hir0
          go_upto_region 7 with fail
          go_loopw [31] (fun yv wr => ∃ y : Nat, yv = .int .i64 y ∧ y ≤ n ∧ Hid (∀ b, b < y → cell M (nth T x).toNat (nth T b).toNat = cell M x b) ∧ Ext w2 wr) (fun yv _ => n - (intOf yv).toNat)
          case atStart => exact ⟨0, rfl, by omega, hid (fun b hb => by omega), ew⟩
          case round =>
            clear ew e0o g0
            obtain ⟨y, rfl, hy, hyo, ew⟩ := hrel
            obtain ⟨wo, rfl⟩ : ∃ y : World, y = wr := ⟨_, rfl⟩
            have e0o : Ext w0 wo := Ext.trans e02 ew
            have qo := ew.cell q2
            by_cases hyl : y < n
            · skip
              have hyv := hid (hpp.2 y hyl)
              obtain ⟨ty, hty, htyn⟩ := hyv.out
              obtain ⟨tx, htx, htxn⟩ := hpp.2 x hxl
              obtain ⟨gt, ot, hdt, ctx⟩ := hT.at (w' := wo) (e := e0o) (k := x) (by rw [hpp.1]; exact hxl)
              cases hdt
              obtain ⟨gt', ot', hdt, cty⟩ := hT.at (w' := wo) (e := e0o) (k := y) (by rw [hpp.1]; exact hyl)
              cases hdt
              rw [htx] at ctx
              rw [hty] at cty
              obtain ⟨_, _, bx, ox, mx, ha, tcx, _, vx⟩ := hRow.out x hxl
              cases ha
              obtain ⟨_, _, bt, ott, mtt, ha, tct, _, vt⟩ := hRow.out tx htxn
              cases ha
              have g1 := tcx wo e0o
              have g2 := tct wo e0o
              have k1 := vx y hyl wo e0o
              have k2 := vt ty htyn wo e0o
              have hcv := hid (show cell M (nth T x).toNat (nth T y).toNat = cell M tx ty by rw [htx, hty]; rfl)
              clear tcx tct vx vt
              obtain ⟨p, hp⟩ : ∃ p, p = cell M x y := ⟨_, rfl⟩
              obtain ⟨q, hq⟩ : ∃ p, p = cell M tx ty := ⟨_, rfl⟩
              rw [← hp] at k1
              rw [← hq] at k2 hcv
              replace hp := hid hp
              replace hq := hid hq
              replace htx := hid htx
              replace hty := hid hty
              have k0 := vx0.out y hyl wo e0o
              rw [← hp.out] at k0
              by_cases heq : q = p
              · have hyo2 := hid (show ∀ b, b < y + 1 → cell M (nth T x).toNat (nth T b).toNat = cell M x b from fun b hb => by
                  by_cases c : b < y
                  · exact hyo.out b c
                  · obtain rfl : b = y := by omega
                    rw [hcv.out, heq, hp.out])
                have hb : (q == p) = true := beq_iff_eq.2 heq
                have hbq : (q == q) = true := beq_iff_eq.2 rfl
                have hbn : (p == q) = true := beq_iff_eq.2 heq.symm
                replace heq := hid heq
                have eF : ∀ k, Ext w2 (wo.drewN k) := fun k => Ext.trans ew inferInstance
                go_wp2_with (go_quiet (fail))
                go_roundw
                case rel => exact ⟨y + 1, by go_num, by omega, hyo2, eF _⟩
                case measure => simp [intOf]; omega
              · have hfal := hid (show ¬ ∀ a, a < n → ∀ b, b < n → cell M (nth T a).toNat (nth T b).toNat = cell M a b from fun h => heq (by
                  have := h x hxl y hyl
                  rw [hcv.out, ← hp.out] at this
                  exact this))
                have hb : (q == p) = false := beq_eq_false_iff_ne.2 heq
                have eF : ∀ k, Ext w (wo.drewN k) := fun k => Ext.trans (Ext.trans ew2 ew) inferInstance
                go_wp2_with (go_quiet (fail))
                exact hno.out _ hf.out hfal.out (eF _)
            · have hyn : y = n := by omega
              have hxo2 := hid (show ∀ a, a < x + 1 → ∀ b, b < n → cell M (nth T a).toNat (nth T b).toNat = cell M a b from fun a ha b hb => by
                by_cases c : a < x
                · exact hxo.out a c b hb
                · obtain rfl : a = x := by omega
                  exact hyo.out b (by omega))
              replace hyn := hid hyn
              go_wp2_with fail
              go_roundw
              case rel => exact ⟨x + 1, by go_num, by omega, hxo2, ew⟩
              case measure => simp [intOf]; omega
        · have hall := hid (show ∀ a, a < n → ∀ b, b < n → cell M (nth T a).toNat (nth T b).toNat = cell M a b from fun a ha => hxo.out a (by omega))
          have eF : Ext w wo := Ext.trans ew2 ew
          go_wp2_with fail
          exact hyes.out _ hf.out hall.out eF
set_option maxHeartbeats 3200000 in
set_option maxRecDepth 100000 in
theorem specIS_any {v vt : Value} {M : List (List Int)} {T : List Int} {w0 w : World} [Ext w0 w] (hm : IsMet w0 v M) (hT : IsInts w0 vt T) :
    Calls Try.prog 13 #[v, vt] w (ISPost M T w) := by
  have hm' := hm
  have hT' := hT
  have hn6 := hid (fun (hM : metB M = true) => met_len hM)
  have hpm := hid (fun (h : pmB M.length T = true) => pm_in h)
  obtain ⟨v1, rfl, hR⟩ := hm
  obtain ⟨a1, c1, rfl, l1⟩ := hR.form
  obtain ⟨dt, mt, rfl, lt⟩ := hT.form
  obtain ⟨PO, hPO⟩ : ∃ P, P = ISPost M T w := ⟨_, rfl⟩
  obtain ⟨n, hn⟩ : ∃ n, n = M.length := ⟨_, rfl⟩
  rw [← hPO]
  have hbad := hid (fun (w' : World) (h : okI M T = false) (e : Ext w w') => show PO (.returned (.tuple #[.bool false, .bool false])) w' by
    rw [hPO]
    refine ⟨?_, e⟩
    unfold isI
    rw [h]; rfl)
  have hno := hid (fun (w' : World) (h : okI M T = true) (q : ¬ ∀ x, x < M.length → ∀ y, y < M.length → cell M (nth T x).toNat (nth T y).toNat = cell M x y) (e : Ext w w') => show PO (.returned (.tuple #[.bool false, .bool true])) w' by
    rw [hPO]
    refine ⟨?_, e⟩
    unfold isI
    rw [h, decide_eq_false q]; rfl)
  have hyes := hid (fun (w' : World) (h : okI M T = true) (q : ∀ x, x < M.length → ∀ y, y < M.length → cell M (nth T x).toNat (nth T y).toNat = cell M x y) (e : Ext w w') => show PO (.returned (.tuple #[.bool true, .bool true])) w' by
    rw [hPO]
    refine ⟨?_, e⟩
    unfold isI
    rw [h, decide_eq_true q]; rfl)
  have hok := hid (show okI M T = (metB M && pmB M.length T) from rfl)
  rw [← hn] at hn6 hR l1 hm' hpm hno hyes hok ⊢
  replace hn := hid hn
  replace hPO := hid hPO
  go_enter Try.func13, Try.ntmps13
  go_upto_region 1 with fail
  have ea : Ext w (w.alloc (.cells #[.slice a1 n c1] 29)) := inferInstance
  have qa : (w.alloc (.cells #[.slice a1 n c1] 29)).cell? ⟨w.heap.size, 0, none⟩ = some (.slice a1 n c1) := by go_simp
  generalize w.alloc (.cells #[.slice a1 n c1] 29) = wa at *
  have e0a : Ext w0 wa := Ext.trans ‹Ext w0 w› ea
  cases hM : metB M with
  | false =>
    have hf := hid (show okI M T = false by rw [hok.out, hM]; rfl)
    replace hM := hid hM
    go_wp2_with fail
    with_reducible refine (l6Good_any (w0 := w0) hm').mono ?_
    rw [hM.out]
    rintro e w1 ⟨rfl, e1⟩
    have eF : Ext w w1 := Ext.trans ea e1
    go_wp2_with fail
    exact hbad.out _ hf.out eF
  | true =>
    replace hM := hid hM
    have hn7 := hn6.out hM.out
    have hRow := hid (fun x (hx : x < n) => met_cells hR hn.out hM.out hx)
    obtain ⟨bM, oM, _, _, _, ha1, _⟩ := hRow.out 0 (by have := (hn6.out hM.out).1; omega)
    subst ha1
    cases hP : pmB n T with
    | false =>
      have hf := hid (show okI M T = false by rw [hok.out, hM.out, hP]; rfl)
      replace hP := hid hP
      go_wp2_with fail
      with_reducible refine (l6Good_any (w0 := w0) hm').mono ?_
      rw [hM.out]
      rintro e w1 ⟨rfl, e1⟩
      have q1 := e1.cell qa
      have e01 : Ext w0 w1 := Ext.trans e0a e1
      go_wp2_with fail
      with_reducible refine (l6Perm_any (w0 := w0) (w := w1) (n := n) hT' (by omega)).mono ?_
      rw [hP.out]
      rintro e w2 ⟨rfl, e2⟩
      have eF : Ext w w2 := Ext.trans (Ext.trans ea e1) e2
      go_wp2_with fail
      exact hbad.out _ hf.out eF
    | true =>
      have hf := hid (show okI M T = true by rw [hok.out, hM.out, hP]; rfl)
      have hpp := hpm.out hP
      rw [hpp.1] at hT hT' ⊢
      replace hP := hid hP
      go_wp2_with fail
      with_reducible refine (l6Good_any (w0 := w0) hm').mono ?_
      rw [hM.out]
      rintro e w1 ⟨rfl, e1⟩
      have q1 := e1.cell qa
      have e01 : Ext w0 w1 := Ext.trans e0a e1
      go_wp2_with fail
      with_reducible refine (l6Perm_any (w0 := w0) (w := w1) (n := n) hT' (by omega)).mono ?_
      rw [hP.out]
      rintro e w2 ⟨rfl, e2⟩
      have q2 := e2.cell q1
      have e02 : Ext w0 w2 := Ext.trans e01 e2
      have ew2 : Ext w w2 := Ext.trans (Ext.trans ea e1) e2
      clear e0a ea qa e1 q1 e01 e2
      go_upto_region 4 with fail
      go_loopw [6] (fun xv wr => ∃ x : Nat, xv = .int .i64 x ∧ x ≤ n ∧ Hid (∀ a, a < x → ∀ b, b < n → cell M (nth T a).toNat (nth T b).toNat = cell M a b) ∧ Ext w2 wr) (fun xv _ => n - (intOf xv).toNat)
      case atStart => exact ⟨0, rfl, by omega, hid (fun a ha => by omega), Ext.refl _⟩
      case round =>
        obtain ⟨x, rfl, hx, hxo, ew⟩ := hrel
        obtain ⟨wo, rfl⟩ : ∃ y : World, y = wr := ⟨_, rfl⟩
        have e0o : Ext w0 wo := Ext.trans e02 ew
        by_cases hxl : x < n
        · go_upto_region 7 with fail
          go_loopw [7] (fun yv wr => ∃ y : Nat, yv = .int .i64 y ∧ y ≤ n ∧ Hid (∀ b, b < y → cell M (nth T x).toNat (nth T b).toNat = cell M x b) ∧ Ext w2 wr) (fun yv _ => n - (intOf yv).toNat)
          case atStart => exact ⟨0, rfl, by omega, hid (fun b hb => by omega), ew⟩
          case round =>
            clear ew e0o
            obtain ⟨y, rfl, hy, hyo, ew⟩ := hrel
            obtain ⟨wo, rfl⟩ : ∃ y : World, y = wr := ⟨_, rfl⟩
            have e0o : Ext w0 wo := Ext.trans e02 ew
            have qo := ew.cell q2
            by_cases hyl : y < n
            · skip
              have hyv := hid (hpp.2 y hyl)
              obtain ⟨ty, hty, htyn⟩ := hyv.out
              obtain ⟨tx, htx, htxn⟩ := hpp.2 x hxl
              obtain ⟨gt, ot, hdt, ctx⟩ := hT.at (w' := wo) (e := e0o) (k := x) (by rw [hpp.1]; exact hxl)
              cases hdt
              obtain ⟨gt', ot', hdt, cty⟩ := hT.at (w' := wo) (e := e0o) (k := y) (by rw [hpp.1]; exact hyl)
              cases hdt
              rw [htx] at ctx
              rw [hty] at cty
              obtain ⟨_, _, bx, ox, mx, ha, tcx, _, vx⟩ := hRow.out x hxl
              cases ha
              obtain ⟨_, _, bt, ott, mtt, ha, tct, _, vt⟩ := hRow.out tx htxn
              cases ha
              have g1 := tcx wo e0o
              have g2 := tct wo e0o
              have k1 := vx y hyl wo e0o
              have k2 := vt ty htyn wo e0o
              have hcv := hid (show cell M (nth T x).toNat (nth T y).toNat = cell M tx ty by rw [htx, hty]; rfl)
              clear tcx tct vx vt
              obtain ⟨p, hp⟩ : ∃ p, p = cell M x y := ⟨_, rfl⟩
              obtain ⟨q, hq⟩ : ∃ p, p = cell M tx ty := ⟨_, rfl⟩
              rw [← hp] at k1
              rw [← hq] at k2 hcv
              replace hp := hid hp
              replace hq := hid hq
              replace htx := hid htx
              replace hty := hid hty
              by_cases heq : p = q
              · have hyo2 := hid (show ∀ b, b < y + 1 → cell M (nth T x).toNat (nth T b).toNat = cell M x b from fun b hb => by
                  by_cases c : b < y
                  · exact hyo.out b c
                  · obtain rfl : b = y := by omega
                    rw [hcv.out, ← heq, hp.out])
                have hb : (p == q) = true := beq_iff_eq.2 heq
                subst heq
                have eF : ∀ k, Ext w2 (wo.drewN k) := fun k => Ext.trans ew inferInstance
                go_wp2_with (go_quiet (fail))
                go_roundw
                case rel => exact ⟨y + 1, by go_num, by omega, hyo2, eF _⟩
                case measure => simp [intOf]; omega
              · have hfal := hid (show ¬ ∀ a, a < n → ∀ b, b < n → cell M (nth T a).toNat (nth T b).toNat = cell M a b from fun h => heq (by
                  have := h x hxl y hyl
                  rw [hcv.out, ← hp.out] at this
                  exact this.symm))
                have hb : (p == q) = false := beq_eq_false_iff_ne.2 heq
                have eF : ∀ k, Ext w (wo.drewN k) := fun k => Ext.trans (Ext.trans ew2 ew) inferInstance
                go_wp2_with (go_quiet (fail))
                exact hno.out _ hf.out hfal.out (eF _)
            · have hyn : y = n := by omega
              have hxo2 := hid (show ∀ a, a < x + 1 → ∀ b, b < n → cell M (nth T a).toNat (nth T b).toNat = cell M a b from fun a ha b hb => by
                by_cases c : a < x
                · exact hxo.out a c b hb
                · obtain rfl : a = x := by omega
                  exact hyo.out b (by omega))
              replace hyn := hid hyn
              go_wp2_with fail
              go_roundw
              case rel => exact ⟨x + 1, by go_num, by omega, hxo2, ew⟩
              case measure => simp [intOf]; omega
        · have hall := hid (show ∀ a, a < n → ∀ b, b < n → cell M (nth T a).toNat (nth T b).toNat = cell M a b from fun a ha => hxo.out a (by omega))
          have eF : Ext w wo := Ext.trans ew2 ew
          go_wp2_with fail
          exact hyes.out _ hf.out hall.out eF
end Go.Proofs.Ytnlbjbnjjkilhaa
