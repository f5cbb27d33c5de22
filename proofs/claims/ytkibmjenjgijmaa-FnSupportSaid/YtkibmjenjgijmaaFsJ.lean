/- FromSupport, the program's: the walk. -/
import Derived.Test.YtkibmjenjgijmaaFsI
namespace Go.Proofs.Ytkibmjenjgijmaa
open Go.RowKit

theorem fsI_def {M C : List (List Int)} {V : List Int} : fsI M C V = (metB M && (inB C.length 1 56 && (decide (V.length = C.length) && (belowB 100000 V && !(C.any (fsBad M C)))))) := rfl
theorem fs_no {M C : List (List Int)} {V : List Int} (h : fsI M C V = false) : fsB M C V = false ∧ fsR M C V = [] := by
  have h1 : fsB M C V = false := by rw [fsB, ← fsI_ok, h]; rfl
  exact ⟨h1, by rw [fsR, h1]; rfl⟩
theorem fi_fs {M C : List (List Int)} {V : List Int} (h : fsOk M C V = true) : fiL M C (confs M.length (row C 0).length 0) V C.length 0 = fsV M C V := by
  obtain ⟨hd, hk, hC, hV, hc⟩ := fs_all h
  refine eq_of_nth (by rw [fiL_length, fsV_len]) fun y hy => ?_
  rw [fiL_length] at hy
  rw [nth_fiL hy, if_neg (by omega), fsV_at hy]
  exact fi_eq (fun t ht => by have := fs_mv h (row_mem hy) t ht; omega) _ (Nat.le_refl _) hC.1
theorem fs_bel {M C : List (List Int)} {V : List Int} (h : fsOk M C V = true) : belowB 100000 (fsV M C V) = fsB M C V := by
  rw [fsB, h, Bool.true_and]
  cases hb : belowB 100000 (fsV M C V) with
  | true =>
    refine (List.all_eq_true.2 fun y hy => ?_).symm
    obtain ⟨j, hj, rfl⟩ := mem_iff_nth.1 hy
    have := belowB_at hb hj
    exact decide_eq_true (by omega)
  | false =>
    cases ha : (fsV M C V).all fun y => decide (y ≤ 99999) with
    | false => rfl
    | true =>
      have : belowB 100000 (fsV M C V) = true := belowB_of fun k hk => inB_true.2 (by
        have h1 := of_decide_eq_true ((List.all_eq_true.1 ha) _ (nth_mem hk))
        have h2 := fsV_i64 h _ (nth_mem hk)
        omega)
      rw [this] at hb
      cases hb
set_option maxHeartbeats 800000 in
set_option maxRecDepth 100000 in
theorem fs1_any {va : Value} {M C : List (List Int)} {a : List Int} {a1 d0 : Option Addr} {bm bc gC oC c1 mC m0 : Nat} {w0 w : World} [Ext w0 w] (hm : IsMet w0 (.agg #[.slice a1 M.length c1]) M) (ha : IsInts w0 va a) (h17 : M.length ≤ 17592186044415) (hC : 0 < C.length)
    (x0 : w.cell? ⟨bm, 0, none⟩ = some (.slice a1 M.length c1)) (x1 : w.cell? ⟨bc, 0, none⟩ = some (.slice (some ⟨gC, oC, none⟩) C.length mC)) (x2 : w.cell? ⟨gC, oC, none⟩ = some (.slice d0 (row C 0).length m0)) :
    Calls Try.prog 54 #[va, .pointer (some ⟨bm, 0, none⟩), .pointer (some ⟨bc, 0, none⟩)] w fun e w' => e = .returned (.bool (fsBad M C a)) ∧ Ext w w' := by
  have ha' := ha
  obtain ⟨da, ma, rfl, la⟩ := ha.form
  cases hc : cfgB M.length a with
  | false =>
    have hr := hid (show fsBad M C a = true by rw [fsBad, hc]; rfl)
    replace hc := hid hc
    go_enter Try.func54, Try.ntmps54
    go_wp2_with fail
    with_reducible refine (isConfig_any (w0 := w0) hm ha' h17).mono ?_
    rw [hc.out]
    rintro e w1 ⟨rfl, e1⟩
    go_wp2_with fail
    go_ret
    exact ⟨ret_bool hr.out.symm, e1⟩
  | true =>
    by_cases hl : a.length = (row C 0).length
    · have hr := hid (show fsBad M C a = false by rw [fsBad, hc]; simp [hl])
      have hne : ((a.length : Int) != ((row C 0).length : Int)) = false := by simp [hl]
      replace hc := hid hc
      replace hl := hid hl
      generalize (row C 0).length = n0 at *
      go_enter Try.func54, Try.ntmps54
      go_wp2_with fail
      with_reducible refine (isConfig_any (w0 := w0) hm ha' h17).mono ?_
      rw [hc.out]
      rintro e w1 ⟨rfl, e1⟩
      have y1 := e1.cell x1
      have y2 := e1.cell x2
      clear x0 x1 x2
      go_wp2_with fail
      go_ret
      exact ⟨ret_bool hr.out.symm, e1⟩
    · have hr := hid (show fsBad M C a = true by rw [fsBad, hc]; simp [hl])
      have hne : ((a.length : Int) != ((row C 0).length : Int)) = true := by simp; omega
      replace hc := hid hc
      replace hl := hid hl
      generalize (row C 0).length = n0 at *
      go_enter Try.func54, Try.ntmps54
      go_wp2_with fail
      with_reducible refine (isConfig_any (w0 := w0) hm ha' h17).mono ?_
      rw [hc.out]
      rintro e w1 ⟨rfl, e1⟩
      have y1 := e1.cell x1
      have y2 := e1.cell x2
      clear x0 x1 x2
      go_wp2_with fail
      go_ret
      exact ⟨ret_bool hr.out.symm, e1⟩
theorem fs1_call (xa : Array Value) (W : World) : (callFunc 54 xa).run Try.prog W = .ok (.enter 54 xa) W := by kernel_rfl
end Go.Proofs.Ytkibmjenjgijmaa
