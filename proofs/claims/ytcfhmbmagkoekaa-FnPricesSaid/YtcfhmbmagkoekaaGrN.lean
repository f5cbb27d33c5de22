/- Several texts in one: Smv Val Lw. -/
import Derived.Test.YtcfhmbmagkoekaaGrI
import Derived.Test.YtcfhmbmagkoekaaGrD
import Derived.Test.YtcfhmbmagkoekaaGrJ
import Derived.Test.YtcfhmbmagkoekaaGrC
/- The cost of a schedule's moves, both sides. -/
namespace Go.Proofs.Ytcfhmbmagkoekaa
open Go.RowKit

theorem sm_srv {M : List (List Int)} {a X : List Int} {C : List (List Int)} (h : srvB M a X = false) : smB M a X C = false ∧ smR M a X C = 0 := by
  have : smB M a X C = false := by simp [smB, h]
  exact ⟨this, by simp [smR, this]⟩
theorem sm_len {M : List (List Int)} {a X : List Int} {C : List (List Int)} (h : C.length ≠ X.length) : smB M a X C = false ∧ smR M a X C = 0 := by
  have : smB M a X C = false := by simp [smB, h]
  exact ⟨this, by simp [smR, this]⟩
theorem sm_bad {M : List (List Int)} {a X : List Int} {C : List (List Int)} {t : Nat} (ht : t < C.length) (h : smOk M a X C t = false) : smB M a X C = false ∧ smR M a X C = 0 := by
  have : smB M a X C = false := by
    cases hb : smB M a X C with
    | false => rfl
    | true =>
      have := (smB_iff.1 hb).2.2 t ht
      rw [h] at this
      cases this
  exact ⟨this, by simp [smR, this]⟩
theorem sm_all {M : List (List Int)} {a X : List Int} {C : List (List Int)} (h : srvB M a X = true) (hl : C.length = X.length) (hok : ∀ z, z < C.length → smOk M a X C z = true) : smB M a X C = true ∧ smR M a X C = scTo M a C X.length := by
  have : smB M a X C = true := smB_iff.2 ⟨h, hl, hok⟩
  exact ⟨this, by simp [smR, this]⟩
/-- what the moves up to a place give -/
theorem sc_upto {M : List (List Int)} {a X : List Int} {C : List (List Int)} (h : srvB M a X = true) {t : Nat} (hok : ∀ z, z < t → smOk M a X C z = true) : scP a C t ∈ confs M.length a.length 0 ∧ 0 ≤ scTo M a C t ∧ scTo M a C t ≤ 297 * t := by
  obtain ⟨hd, hk, ha, _, _⟩ := srv_all h
  induction t with
  | zero => exact ⟨ha, by simp [scTo], by simp [scTo]⟩
  | succ t ih =>
    obtain ⟨h1, h2, h3⟩ := ih fun z hz => hok z (by omega)
    obtain ⟨h4, h5, _⟩ := smOk_iff.1 (hok t (by omega))
    have h6 : row C t ∈ confs M.length a.length 0 := by rw [← h5]; exact cfg_confs h4
    have := mv_confs hd hk.2 h1 h6
    rw [scP_succ, scTo]
    exact ⟨h6, by omega, by omega⟩

end Go.Proofs.Ytcfhmbmagkoekaa

/- The work lists after the first requests, the reference's; the least costs of both sides. -/
namespace Go.Proofs.Ytcfhmbmagkoekaa
open Go.RowKit

theorem wl_i64 {M : List (List Int)} {a X : List Int} (h : srvB M a X = true) : ∀ i, i ≤ X.length → ∀ x ∈ wlAt M (confs M.length a.length 0) a X i, I64 x := by
  obtain ⟨hd, hk, ha, hX, hl⟩ := srv_all h
  intro i hi x hx
  have hw := wl_good hd hk.1 hk.2 ha hX (by omega) i hi
  obtain ⟨j, hj, rfl⟩ := mem_iff_nth.1 hx
  have := hw.2 j (by rw [← hw.1.1]; exact hj)
  unfold I64
  omega
theorem wl_len {M : List (List Int)} {a X : List Int} (h : srvB M a X = true) {i : Nat} (hi : i ≤ X.length) : (wlAt M (confs M.length a.length 0) a X i).length = (confs M.length a.length 0).length := by
  obtain ⟨hd, hk, ha, hX, hl⟩ := srv_all h
  exact (wl_good hd hk.1 hk.2 ha hX (by omega) i hi).1.1
theorem wlL_ok {M : List (List Int)} {a X : List Int} (h : srvB M a X = true) {q : Nat} (hq : q ≤ X.length) : ShortRows (wlL M (confs M.length a.length 0) a X q).length ∧ (∀ r ∈ wlL M (confs M.length a.length 0) a X q, Short r.length) ∧ ∀ r ∈ wlL M (confs M.length a.length 0) a X q, ∀ x ∈ r, I64 x := by
  obtain ⟨hd, hk, ha, hX, hl⟩ := srv_all h
  have h216 := confs_216 (met_len (srvB_iff.1 h).1).2 hk.2
  refine ⟨by unfold ShortRows; rw [wlL_len]; omega, fun r hr => ?_, fun r hr => ?_⟩
  · obtain ⟨j, hj, rfl⟩ := List.mem_map.1 hr
    have := List.mem_range.1 hj
    rw [wl_len h (by omega)]
    unfold Short
    omega
  · obtain ⟨j, hj, rfl⟩ := List.mem_map.1 hr
    have := List.mem_range.1 hj
    exact wl_i64 h j (by omega)

end Go.Proofs.Ytcfhmbmagkoekaa

/- The least costs and the work lists of servers, both sides. -/
namespace Go.Proofs.Ytcfhmbmagkoekaa
open Go.RowKit

def wlR (M : List (List Int)) (a X : List Int) : List (List Int) := if srvB M a X then wlL M (confs M.length a.length 0) a X X.length else []
theorem wlR_yes {M : List (List Int)} {a X : List Int} (h : srvB M a X = true) : wlR M a X = wlL M (confs M.length a.length 0) a X X.length := by rw [wlR, if_pos h]
theorem wlR_no {M : List (List Int)} {a X : List Int} (h : srvB M a X = false) : wlR M a X = [] ∧ lwR M a X = 0 := by simp [wlR, lwR, h]
theorem rows_none (u : World) (d : Option Addr) (c : Nat) : IsRows u (.slice d 0 c) [] := ⟨d, c, rfl, by unfold ShortRows; simp, fun j hj => by simp at hj⟩

set_option maxHeartbeats 1600000 in
set_option maxRecDepth 100000 in
theorem leastWork_any {v va vX : Value} {M : List (List Int)} {a X : List Int} {w0 w : World} [Ext w0 w] (hm : IsMet w0 v M) (ha : IsInts w0 va a) (hXi : IsInts w0 vX X) (hS : srvB M a X = true) :
    Calls Try.prog 66 #[v, va, vX] w fun e w' => e = .returned (.int .i64 (lwR M a X)) ∧ Ext w w' := by
  have hm' := hm
  have ha' := ha
  have hX' := hXi
  obtain ⟨v1, rfl, hR⟩ := hm
  obtain ⟨a1, c1, rfl, l1⟩ := hR.form
  obtain ⟨da, ma, rfl, la⟩ := ha.form
  obtain ⟨aX, mX, rfl, lX⟩ := hXi.form
  have x0 : (w.alloc (.cells #[.slice a1 M.length c1] 29)).cell? ⟨w.heap.size, 0, none⟩ = some (.slice a1 M.length c1) := by go_simp
  obtain ⟨hM, hk, hac, hl, hX⟩ := srv_parts hS
  have hlok := hid (wlL_ok hS (Nat.le_refl X.length))
  have hne := hid (wl_ne hS (Nat.le_refl X.length))
  have hM' := hid hM
  have hac' := hid hac
  have hX2 := hid hX
  have hSS := hid hS
  clear hac hX hM
  replace hS := hid hS
  have hlw := hid (show lwR M a X = leastL (wlAt M (confs M.length a.length 0) a X X.length) by rw [lwR, if_pos hS.out])
  go_enter Try.func66, Try.ntmps66
  go_wp2_with fail
  with_reducible refine (worksOf_any (w0 := w0) hm' hM'.out hk.1 hk.2).mono ?_
  rintro e w2 ⟨u, rfl, hW, e2⟩
  have e2w : Ext w w2 := Ext.trans inferInstance e2
  have e02 : Ext w0 w2 := Ext.trans ‹Ext w0 w› e2w
  go_wp2_with fail
  with_reducible refine (lists_any (w0 := w2) (w := w2) hW hM'.out (ha'.ext (w' := w2)) (hX'.ext (w' := w2)) hk.1 hk.2 hac'.out (by omega) hX2.out).mono ?_
  rintro e w3 ⟨vT, rfl, tabT, e3⟩
  have hT : IsRows w3 vT (wlL M (confs M.length a.length 0) a X X.length) := tabT.reads hlok.out.1 hlok.out.2.1 hlok.out.2.2
  obtain ⟨dT, mT, rfl, lT⟩ := hT.form
  obtain ⟨bO, oO, dW, mW, rfl, hcW, hWI, _⟩ := hT.at (w' := w3) (k := X.length) (by rw [wlL_len]; omega)
  have hrq := hid (show row (wlL M (confs M.length a.length 0) a X X.length) X.length = wlAt M (confs M.length a.length 0) a X X.length from wlL_row (Nat.le_refl _))
  rw [hrq.out] at hcW hWI
  have hTl : (wlL M (confs M.length a.length 0) a X X.length).length = X.length + 1 := wlL_len
  have hW0 : 0 < (wlAt M (confs M.length a.length 0) a X X.length).length := List.length_pos_iff.2 hne.out
  generalize wlAt M (confs M.length a.length 0) a X X.length = W at *
  generalize wlL M (confs M.length a.length 0) a X X.length = T at *
  clear tabT
  go_wp2_with fail
  with_reducible refine (sMin_any (w0 := w3) (w := w3) hWI hW0).mono ?_
  rintro e w4 ⟨rfl, rfl⟩
  go_wp2_with fail
  go_ret
  exact ⟨ret_int hlw.out.symm, Ext.trans e2w e3⟩

set_option maxHeartbeats 1600000 in
set_option maxRecDepth 100000 in
theorem implLeast_any {v va vX : Value} {M : List (List Int)} {a X : List Int} {w0 w : World} [Ext w0 w] (hm : IsMet w0 v M) (ha : IsInts w0 va a) (hXi : IsInts w0 vX X) :
    Calls Try.prog 29 #[v, va, vX] w fun e w' => e = .returned (.tuple #[.int .i64 (lwR M a X), .bool (srvB M a X)]) ∧ Ext w w' := by
  have hm' := hm
  have ha' := ha
  have hX' := hXi
  obtain ⟨v1, rfl, hR⟩ := hm
  obtain ⟨a1, c1, rfl, l1⟩ := hR.form
  obtain ⟨da, ma, rfl, la⟩ := ha.form
  obtain ⟨aX, mX, rfl, lX⟩ := hXi.form
  have x0 : (w.alloc (.cells #[.slice a1 M.length c1] 29)).cell? ⟨w.heap.size, 0, none⟩ = some (.slice a1 M.length c1) := by go_simp
  cases hS : srvB M a X with
  | false =>
    have hr := hid (wlR_no hS)
    replace hS := hid hS
    go_enter Try.func29, Try.ntmps29
    go_wp2_with fail
    with_reducible refine (isServed_any (w0 := w0) hm' ha' hX').mono ?_
    rw [hS.out]
    rintro e w1 ⟨rfl, e1⟩
    have x1 := e1.cell x0
    have e1w : Ext w w1 := Ext.trans inferInstance e1
    have e01 : Ext w0 w1 := Ext.trans ‹Ext w0 w› e1w
    go_wp2_with fail
    go_ret2
    rw [hr.out.2]
    exact ⟨rfl, Ext.trans e1w inferInstance⟩
  | true =>
    have hSS := hS
    have hyes := hid (wlR_yes hS)
    obtain ⟨hM, hk, hac, hl, hX⟩ := srv_parts hS
    have hlok := hid (wlL_ok hS (Nat.le_refl X.length))
    have hne := hid (wl_ne hS (Nat.le_refl X.length))
    have hM' := hid hM
    have hac' := hid hac
    have hX2 := hid hX
    clear hac hX hM
    replace hS := hid hS
    go_enter Try.func29, Try.ntmps29
    go_wp2_with fail
    with_reducible refine (isServed_any (w0 := w0) hm' ha' hX').mono ?_
    rw [hS.out]
    rintro e w1 ⟨rfl, e1⟩
    have x1 := e1.cell x0
    have e1w : Ext w w1 := Ext.trans inferInstance e1
    have e01 : Ext w0 w1 := Ext.trans ‹Ext w0 w› e1w
    go_wp2_with fail
    with_reducible refine (leastWork_any (w0 := w0) hm' ha' hX' hS.out).mono ?_
    rintro e w2 ⟨rfl, e2⟩
    go_wp2_with fail
    go_ret2
    exact ⟨rfl, Ext.trans e1w e2⟩

end Go.Proofs.Ytcfhmbmagkoekaa

