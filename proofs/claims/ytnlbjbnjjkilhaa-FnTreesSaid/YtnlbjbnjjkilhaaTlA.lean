/- What the law of trees compares with: metrics and lists of edges, both sides equal. -/
import Derived.Test.YtnlbjbnjjkilhaaVlaw
import Derived.Test.YtnlbjbnjjkilhaaFlatW
import Derived.Test.YtnlbjbnjjkilhaaMtD
namespace Go.Proofs.Ytnlbjbnjjkilhaa
open Go.RowKit

set_option maxHeartbeats 1600000 in
set_option maxRecDepth 100000 in
theorem rMetric_l {v u : Value} {M : List (List Int)} {w0 w : World} [Ext w0 w] (hv : IsMet w0 v M) (hu : IsMet w0 u M) :
    Calls Try.prog 8 #[v, u] w fun e w' => e = .returned (.bool true) ∧ Ext w w' := by
  obtain ⟨v1, rfl, h1⟩ := hv
  obtain ⟨u1, rfl, h2⟩ := hu
  have h1' := h1
  have h2' := h2
  obtain ⟨a1, c1, rfl, l1⟩ := h1.form
  obtain ⟨a2, c2, rfl, l2⟩ := h2.form
  go_enter Try.func8, Try.ntmps8
  go_upto_region 1 with fail
  have ez : Ext w ((w.alloc (.cells #[.slice a1 M.length c1] 29)).alloc (.cells #[.slice a2 M.length c2] 29)) := inferInstance
  have z0 : ((w.alloc (.cells #[.slice a1 M.length c1] 29)).alloc (.cells #[.slice a2 M.length c2] 29)).cell? ⟨w.heap.size, 0, none⟩ = some (.slice a1 M.length c1) := by go_simp
  have z1 : ((w.alloc (.cells #[.slice a1 M.length c1] 29)).alloc (.cells #[.slice a2 M.length c2] 29)).cell? ⟨w.heap.size + 1, 0, none⟩ = some (.slice a2 M.length c2) := by go_simp
  generalize (w.alloc (.cells #[.slice a1 M.length c1] 29)).alloc (.cells #[.slice a2 M.length c2] 29) = w1 at *
  have e01 : Ext w0 w1 := Ext.trans ‹Ext w0 w› ez
  go_wp2_with fail
  with_reducible refine (rTable_l (w0 := w0) (w := w1) h1' h2').mono ?_
  rintro e w2 ⟨rfl, e2⟩
  go_wp2_with fail
  go_ret
  exact ⟨rfl, Ext.trans ez e2⟩
set_option maxHeartbeats 1600000 in
set_option maxRecDepth 100000 in
theorem rPairs_l {v u : Value} {L : List (List Int)} {w0 w : World} [Ext w0 w] (hv : IsFlat w0 v 2 L) (hu : IsFlat w0 u 2 L) :
    Calls Try.prog 15 #[v, u] w fun e w' => e = .returned (.bool true) ∧ Ext w w' := by
  obtain ⟨a1, c1, rfl, l1⟩ := hv.form
  obtain ⟨a2, c2, rfl, l2⟩ := hu.form
  go_enter Try.func15, Try.ntmps15
  go_wp2
  go_loopw [5] (fun i wr => ∃ k : Nat, k ≤ L.length ∧ i = .int .i64 k ∧ Ext w wr) (fun i _ => L.length - (intOf i).toNat)
  case atStart => exact ⟨0, by omega, rfl, Ext.refl _⟩
  case round =>
    obtain ⟨k, hk, rfl, e2⟩ := hrel
    obtain ⟨wo, rfl⟩ : ∃ y : World, y = wr := ⟨_, rfl⟩
    have e0 : Ext w0 wo := Ext.trans ‹Ext w0 w› e2
    by_cases hlt : k < L.length
    · obtain ⟨b1, o1, rfl, hc1⟩ := hv.at (w' := wo) hlt
      obtain ⟨b2, o2, rfl, hc2⟩ := hu.at (w' := wo) hlt
      have x0 := hc1 0 (by omega)
      have x1 := hc1 1 (by omega)
      have y0 := hc2 0 (by omega)
      have y1 := hc2 1 (by omega)
      rw [Nat.add_zero] at x0 y0
      clear hc1 hc2
      have heqp := equalPair_yes (a := cell L k 0) (b := cell L k 1) (c := cell L k 0) (d := cell L k 1) ⟨rfl, rfl⟩
      generalize cell L k 0 = p0 at *
      generalize cell L k 1 = p1 at *
      go_wp2_with (go_quiet (fail))
      go_roundw
      case rel => exact ⟨k + 1, by omega, by go_num, Ext.trans e2 inferInstance⟩
      case measure => simp [intOf]; omega
    · go_wp2
      go_ret
      exact ⟨rfl, e2⟩
end Go.Proofs.Ytnlbjbnjjkilhaa
