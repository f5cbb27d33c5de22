/- Fractions in the laws: a copy of one, and that it equals itself. -/
import Derived.Test.YtobfehekjapnhaaLawC
import Derived.Deep.Cut
namespace Go.Proofs.Ytobfehekjapnhaa
open Go.RowKit

set_option maxHeartbeats 400000 in
theorem eqFrac_same (n d : Int) (w : World) :
    Calls Try.prog 24 #[.agg #[.int .i64 n, .int .i64 d], .agg #[.int .i64 n, .int .i64 d]] w fun e w' => e = .returned (.bool true) ∧ Ext w w' := by
  have h1 : (n != n) = false := by simp
  have h2 : (d != d) = false := by simp
  go_enter Try.func24, Try.ntmps24
  go_wp2
  go_ret
  exact ⟨rfl, inferInstance⟩

set_option maxHeartbeats 400000 in
theorem toFrac_any {n d : Int} (w : World) :
    Calls Try.prog 35 #[.agg #[.int .i64 n, .int .i64 d]] w fun e w' => e = .returned (.agg #[.int .i64 n, .int .i64 d]) ∧ Ext w w' := by
  obtain ⟨W, hW⟩ : ∃ W, W = ((w.alloc (.cells #[.int .i64 n, .int .i64 d] 54)).alloc (.cells #[.int .i64 0, .int .i64 0] 39)).alloc (.cells #[.int .i64 0, .int .i64 0] 39) := ⟨_, rfl⟩
  have eW : Ext w W := by rw [hW]; infer_instance
  have a0 : W.cell? ⟨w.heap.size, 0, none⟩ = some (.int .i64 n) := by rw [hW]; go_simp
  have a1 : W.cell? ⟨w.heap.size, 1, none⟩ = some (.int .i64 d) := by rw [hW]; go_simp
  have b0 : W.cell? ⟨w.heap.size + 1, 0, none⟩ = some (.int .i64 0) := by rw [hW]; go_simp
  have b1 : W.cell? ⟨w.heap.size + 1, 1, none⟩ = some (.int .i64 0) := by rw [hW]; go_simp
  have c0 : W.cell? ⟨w.heap.size + 1 + 1, 0, none⟩ = some (.int .i64 0) := by rw [hW]; go_simp
  have c1 : W.cell? ⟨w.heap.size + 1 + 1, 1, none⟩ = some (.int .i64 0) := by rw [hW]; go_simp
  have f0 : W.frozen? ⟨w.heap.size + 1, 0, none⟩ = false := by rw [hW]; go_simp
  have f1 : W.frozen? ⟨w.heap.size + 1, 1, none⟩ = false := by rw [hW]; go_simp
  have g0 : W.frozen? ⟨w.heap.size + 1 + 1, 0, none⟩ = false := by rw [hW]; go_simp
  have g1 : W.frozen? ⟨w.heap.size + 1 + 1, 1, none⟩ = false := by rw [hW]; go_simp
  go_enter Try.func35, Try.ntmps35
  go_upto_region 2 with fail
  rw [← hW]
  clear hW
  go_wp2_with fail
  refine bodyPost_ret (v := .agg #[.int .i64 n, .int .i64 d]) (by simp [results, Try.results35, go_sem, b0, b1]) rfl ?_
  refine ⟨rfl, ?_⟩
  exact @Ext.set _ _ (@Ext.set _ _ (@Ext.set _ _ (@Ext.set _ _ eW ⟨w.heap.size + 1 + 1, 0, none⟩ (by show _ ≤ w.heap.size + 1 + 1; omega) _) ⟨w.heap.size + 1 + 1, 1, none⟩ (by show _ ≤ w.heap.size + 1 + 1; omega) _) ⟨w.heap.size + 1, 0, none⟩ (by show _ ≤ w.heap.size + 1; omega) _) ⟨w.heap.size + 1, 1, none⟩ (by show _ ≤ w.heap.size + 1; omega) _

end Go.Proofs.Ytobfehekjapnhaa
