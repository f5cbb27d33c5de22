/- The laws' own helpers on metrics: a struct of one field, the rows of distances. -/
import Derived.Test.YtkibmjenjgijmaaGrA
import Derived.Test.YtkibmjenjgijmaaGrB
import Derived.Test.YtkibmjenjgijmaaGrF
namespace Go.Proofs.Ytkibmjenjgijmaa
open Go.RowKit

theorem Own.met' {w w0 : World} {B e1 e2 : Nat} {u1 v0 : Value} {vs1 : List Value} {M : List (List Int)} (h : Own w B (rowsOf e1 e2 u1 vs1 M)) (h1 : vs1.length = M.length) (hp : IsMet w0 v0 M) : IsMet w (.agg #[u1]) M := by
  obtain ⟨_, _, hM⟩ := hp
  have h' : Own w B (rowsOf e1 e2 u1 vs1 M ++ []) := by rw [List.append_nil]; exact h
  exact ⟨u1, rfl, h'.readsAll h1 hM.all.1 hM.all.2.1 hM.all.2.2⟩

set_option maxHeartbeats 400000 in
theorem szMetric_any {v : Value} {M : List (List Int)} {left : Int} {w0 w : World} [Ext w0 w] (hp : IsMet w0 v M) (h0 : 0 ≤ left) (h1 : left ≤ 2000000) :
    Calls Try.prog 18 #[v, .int .i64 left] w fun y w' => y = .returned (.int .i64 (leftOf left (M.length + sumLen M))) ∧ Ext w w' := by
  obtain ⟨v1, rfl, hM⟩ := hp
  obtain ⟨a1, c1, rfl, l1⟩ := hM.form
  by_cases h : left - (M.length + sumLen M : Nat) < 0
  · have e1 := hid (show leftOf left (M.length + sumLen M) = -1 by rw [leftOf, if_pos h])
    go_enter Try.func18, Try.ntmps18
    go_wp2_with fail
    refine (szIntSS_any (w0 := w0) hM h0 h1).mono ?_
    rw [e1.out]; rintro e w' ⟨rfl, rfl⟩
    go_wp2_with fail
    go_ret
    exact ⟨ret_int e1.out.symm, inferInstance⟩
  · have e1 := hid (show leftOf left (M.length + sumLen M) = left - (M.length + sumLen M : Nat) by rw [leftOf, if_neg h])
    have h0' : 0 ≤ left - (M.length + sumLen M : Nat) := by omega
    generalize hr : left - (M.length + sumLen M : Nat) = r at *
    replace hr := hid hr
    go_enter Try.func18, Try.ntmps18
    go_wp2_with fail
    refine (szIntSS_any (w0 := w0) hM h0 h1).mono ?_
    rw [e1.out]; rintro e w' ⟨rfl, rfl⟩
    go_wp2_with fail
    go_ret
    exact ⟨ret_int e1.out.symm, inferInstance⟩

set_option maxHeartbeats 800000 in
theorem toMetric_any {v : Value} {M : List (List Int)} {w0 w : World} [Ext w0 w] (hp : IsMet w0 v M) :
    Calls Try.prog 20 #[v] w fun e w' => ∃ d1 m1 vs1, e = .returned (.agg #[.slice d1 M.length m1]) ∧ vs1.length = M.length ∧
      Own w' w.heap.size (rowsOf 27 3 (.slice d1 M.length m1) vs1 M) ∧ Ext w w' := by
  obtain ⟨v1, rfl, hM⟩ := hp
  obtain ⟨a1, c1, rfl, l1⟩ := hM.form
  go_enter Try.func20, Try.ntmps20
  go_wp2_with fail
  refine (toIntSS_any (w0 := w0) hM).mono ?_
  rintro e w1 ⟨d1, m1, vs1, rfl, hl1, hown1, hb1⟩
  have c2 : w1.cell? ⟨w.heap.size + 1, 0, none⟩ = some (.slice none 0 0) := hb1.cell (by go_simp)
  have c4 : w1.cell? ⟨w.heap.size + 1 + 1, 0, none⟩ = some (.slice none 0 0) := hb1.cell (by go_simp)
  have f2 : w1.frozen? ⟨w.heap.size + 1, 0, none⟩ = false := hb1.frozen (v := .slice none 0 0) (by go_simp) (by go_simp)
  have f4 : w1.frozen? ⟨w.heap.size + 1 + 1, 0, none⟩ = false := hb1.frozen (v := .slice none 0 0) (by go_simp) (by go_simp)
  have hs1 := hb1.size
  simp only [World.size_alloc] at hs1 hown1
  have e1 : Ext w w1 := Ext.trans inferInstance hb1
  go_wp2_with fail
  refine bodyPost_ret (v := .agg #[.slice d1 M.length m1]) (by simp [results, Try.results20, go_sem, c2]) rfl ⟨d1, m1, vs1, rfl, hl1, ?_, ?_⟩
  · exact ((hown1.setBelow (p := ⟨w.heap.size + 1 + 1, 0, none⟩) (Nat.lt_succ_self _) _).setBelow (p := ⟨w.heap.size + 1, 0, none⟩) (Nat.lt_succ_of_lt (Nat.lt_succ_self _)) _).mono (by omega)
  · exact @Ext.set _ _ (@Ext.set _ _ e1 _ (by simp; omega) _) _ (by simp) _

set_option maxHeartbeats 400000 in
theorem eqMetric_any {v u : Value} {M M' : List (List Int)} {w0 w : World} [Ext w0 w] (hp : IsMet w0 v M) (hq : IsMet w0 u M') :
    Calls Try.prog 23 #[v, u] w fun e w' => e = .returned (.bool (eqR M M')) ∧ Ext w w' := by
  obtain ⟨v1, rfl, hM⟩ := hp
  obtain ⟨u1, rfl, hM'⟩ := hq
  obtain ⟨a1, c1, rfl, l1⟩ := hM.form
  obtain ⟨a3, c3, rfl, l3⟩ := hM'.form
  cases he : eqR M M' with
  | false =>
    replace he := hid he
    go_enter Try.func23, Try.ntmps23
    go_wp2_with fail
    refine (eqIntSS_any (w0 := w0) hM hM').mono ?_
    rw [he.out]; rintro e w' ⟨rfl, n, rfl⟩
    go_wp2_with fail
    go_ret
    exact ⟨rfl, inferInstance⟩
  | true =>
    replace he := hid he
    go_enter Try.func23, Try.ntmps23
    go_wp2_with fail
    refine (eqIntSS_any (w0 := w0) hM hM').mono ?_
    rw [he.out]; rintro e w' ⟨rfl, n, rfl⟩
    go_wp2_with fail
    go_ret
    exact ⟨rfl, inferInstance⟩

end Go.Proofs.Ytkibmjenjgijmaa
