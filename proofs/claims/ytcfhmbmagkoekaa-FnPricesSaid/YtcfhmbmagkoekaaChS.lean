/- The cost of a chain list: the reference's. -/
import Derived.Test.YtcfhmbmagkoekaaChn
namespace Go.Proofs.Ytcfhmbmagkoekaa
open Go.RowKit

set_option maxHeartbeats 400000 in
theorem l7Point_any {va vX : Value} {a X : List Int} {k : Nat} {w0 w : World} [Ext w0 w] (ha : IsInts w0 va a) (hXi : IsInts w0 vX X) (hk : k < a.length + X.length) (hl : a.length + X.length ≤ 1000) :
    Calls Try.prog 124 #[va, vX, .int .i64 k] w fun e w' => e = .returned (.int .i64 (nth (a ++ X) k)) ∧ w' = w := by
  obtain ⟨da, ma, rfl, la⟩ := ha.form
  obtain ⟨dx, mx, rfl, lx⟩ := hXi.form
  by_cases hka : k < a.length
  · obtain ⟨b, o, hd, hc⟩ := ha.at (w' := w) hka
    cases hd
    have hv := hid (show nth (a ++ X) k = nth a k by simp [nth, List.getElem?_append_left hka])
    have hg : decide (k < a.length) = true := decide_eq_true hka
    go_enter Try.func124, Try.ntmps124
    go_wp2_with fail
    go_ret
    exact ⟨ret_int hv.out.symm, rfl⟩
  · obtain ⟨q, rfl⟩ : ∃ q, k = a.length + q := ⟨k - a.length, by omega⟩
    obtain ⟨b, o, hd, hc⟩ := hXi.at (w' := w) (k := q) (by omega)
    cases hd
    have hv := hid (show nth (a ++ X) (a.length + q) = nth X q by simp [nth, List.getElem?_append_right])
    have hg : decide (a.length + q < a.length) = false := decide_eq_false hka
    have hq : q < X.length := by omega
    go_enter Try.func124, Try.ntmps124
    go_wp2_with fail
    go_ret
    exact ⟨ret_int hv.out.symm, rfl⟩

set_option maxHeartbeats 800000 in
set_option maxRecDepth 100000 in
theorem l7Gap_any {v va vX : Value} {M : List (List Int)} {a X : List Int} {k i : Nat} {w0 w : World} [Ext w0 w] (hm : IsMet w0 v M) (ha : IsInts w0 va a) (hXi : IsInts w0 vX X) (hM : metB M = true) (hab : ∀ x ∈ a, 0 ≤ x ∧ x < (M.length : Int)) (hXb : ∀ x ∈ X, 0 ≤ x ∧ x < (M.length : Int)) (hi : i < X.length) (hk : k < a.length + i) (hl : a.length + X.length ≤ 1000) :
    Calls Try.prog 93 #[v, va, vX, .int .i64 k, .int .i64 i] w fun e w' => e = .returned (.int .i64 (flC M a X i k)) ∧ Ext w w' := by
  have ha' := ha
  have hX' := hXi
  obtain ⟨v1, rfl, hR⟩ := hm
  obtain ⟨a1, c1, rfl, l1⟩ := hR.form
  obtain ⟨da, ma, rfl, la⟩ := ha.form
  obtain ⟨dx, mx, rfl, lx⟩ := hXi.form
  have hkl : k < (a ++ X).length := by rw [List.length_append]; omega
  have hpb : 0 ≤ nth (a ++ X) k ∧ nth (a ++ X) k < (M.length : Int) := by
    rcases List.mem_append.1 (nth_mem hkl) with h | h
    · exact hab _ h
    · exact hXb _ h
  have hrb := hXb _ (nth_mem hi)
  obtain ⟨p, hp⟩ := Int.eq_ofNat_of_zero_le hpb.1
  obtain ⟨r, hr⟩ := Int.eq_ofNat_of_zero_le hrb.1
  have hfl := hid (show flC M a X i k = cell M p r by rw [flC, if_pos hk, hp, hr, Int.toNat_natCast, Int.toNat_natCast])
  have hP := hid (show ∀ u, Ext w0 u → Calls Try.prog 124 #[.slice da a.length ma, .slice dx X.length mx, .int .i64 k] u fun e w' => e = .returned (.int .i64 p) ∧ w' = u from fun u e => by
    have h := l7Point_any (w0 := w0) (w := u) ha' hX' (k := k) (by omega) hl
    rw [hp] at h
    exact h)
  have hpM : p < M.length := by omega
  have hrM : r < M.length := by omega
  have hmr : (row M p).length = M.length := met_row hM hpM
  go_enter Try.func93, Try.ntmps93
  go_upto_region 1 with fail
  have e1 : Ext w (w.alloc (.cells #[.slice a1 M.length c1] 29)) := inferInstance
  have x0 : (w.alloc (.cells #[.slice a1 M.length c1] 29)).cell? ⟨w.heap.size, 0, none⟩ = some (.slice a1 M.length c1) := by go_simp
  obtain ⟨bx, hbx⟩ : ∃ q, q = w.heap.size := ⟨_, rfl⟩
  rw [← hbx] at x0 ⊢
  generalize w.alloc (.cells #[.slice a1 M.length c1] 29) = w1 at *
  replace hbx := hid hbx
  have e01 : Ext w0 w1 := Ext.trans ‹Ext w0 w› e1
  obtain ⟨bm, om, dm, mm, hdm, hcm, him, hlm⟩ := hR.at (w' := w1) hpM
  cases hdm
  rw [hmr] at hcm him
  obtain ⟨bp, op, hdp, hcp⟩ := him.at (w' := w1) (k := r) (by rw [hmr]; exact hrM)
  cases hdp
  obtain ⟨bq, oq, hdq, hcq⟩ := hX'.at (w' := w1) hi
  cases hdq
  rw [hr] at hcq
  have hcp' : w1.cell? ⟨bp, op + r, none⟩ = some (.int .i64 (cell M p r)) := hcp
  replace hp := hid hp
  replace hr := hid hr
  generalize cell M p r = y at *
  clear hcp him hlm hmr hM hab hXb hpb hrb hkl
  go_wp2_with (go_quiet ((go_at_call 124; exact Calls.quiet_of_same (hP.out _ inferInstance))))
  go_ret
  exact ⟨ret_int hfl.out.symm, Ext.trans e1 inferInstance⟩

end Go.Proofs.Ytcfhmbmagkoekaa
