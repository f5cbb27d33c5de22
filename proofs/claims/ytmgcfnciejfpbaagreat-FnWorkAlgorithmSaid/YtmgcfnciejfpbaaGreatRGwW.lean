/- The greatest growth of a work list: program and reference. -/
import Derived.Test.YtmgcfnciejfpbaaGreatRGwP
import Derived.Test.YtmgcfnciejfpbaaGreatRWkI
namespace Go.Proofs.YtmgcfnciejfpbaaGreat
open Go.RowKit
set_option maxHeartbeats 1600000 in
set_option maxRecDepth 100000 in
theorem implGrowth_any {v vw : Value} {M : List (List Int)} {ws : List Int} {k r : Int} {w0 w : World} [Ext w0 w] (hm : IsMet w0 v M) (hw : IsInts w0 vw ws) :
    Calls Tryz.prog 52 #[v, .int .i64 k, vw, .int .i64 r] w fun e w' => e = .returned (.tuple #[.int .i64 (gwR M k ws r), .bool (stB M k ws r)]) ∧ Ext w w' := by
  have hm' := hm
  obtain ⟨v1, rfl, hR⟩ := hm
  obtain ⟨a1, c1, rfl, l1⟩ := hR.form
  have hw' := hw
  obtain ⟨dw, mw, rfl, lw⟩ := hw.form
  have x0 : (w.alloc (.cells #[.slice a1 M.length c1] 26)).cell? ⟨w.heap.size, 0, none⟩ = some (.slice a1 M.length c1) := by go_simp
  cases hq : stB M k ws r with
  | false =>
    have hr := hid (show gwR M k ws r = 0 by rw [gwR, hq]; rfl)
    replace hq := hid hq
    go_enter Tryz.func52, Tryz.ntmps52
    go_wp2_with fail
    with_reducible refine (stepWork_any (w0 := w0) hm' hw').mono ?_
    rw [hq.out]
    rintro e w1 ⟨u, rfl, _, e1⟩
    go_wp2_with fail
    go_ret2
    exact ⟨ret_tuple2 (by rw [hr.out]; rfl) rfl, Ext.trans inferInstance e1⟩
  | true =>
    have hr := hid (show gwR M k ws r = grwTo ws (stL M k ws r) (stL M k ws r).length by rw [gwR, hq]; rfl)
    have hgv : givB M k ws r = true := by rw [stB, Bool.and_eq_true] at hq; exact hq.1
    obtain ⟨hM, ⟨hk1, hk3⟩, hrr, hwb⟩ := giv_parts hgv
    have hMl := met_len hM
    have hg := work_good hwb
    have hgn := (wnx_good (r := r) (dst_of_met hM) (k := k.toNat) (by omega) (by omega) hg (by omega) hrr).1
    have hsl : stL M k ws r = wnxL M (confs M.length k.toNat 0) ws r := by rw [stL, if_pos hq]
    have hll : ws.length = (stL M k ws r).length := by rw [hsl, wnxL_len]
    have hb1 := hid (show ∀ j, j < ws.length → 0 ≤ nth ws j ∧ nth ws j ≤ 2000000 from fun j hj => by have := hg.2 j (by rw [← hg.1.1]; exact hj); omega)
    have hb2 := hid (show ∀ j, j < (stL M k ws r).length → 0 ≤ nth (stL M k ws r) j ∧ nth (stL M k ws r) j ≤ 2000000 from fun j hj => by
      rw [hsl] at hj ⊢
      have := hgn.2 j (by rw [wnxL_len, hg.1.1] at hj; exact hj)
      omega)
    clear hsl hgn hg hgv hwb hM hMl
    replace hq := hid hq
    replace hll := hid hll
    go_enter Tryz.func52, Tryz.ntmps52
    go_wp2_with fail
    with_reducible refine (stepWork_any (w0 := w0) hm' hw').mono ?_
    rw [hq.out]
    rintro e w1 ⟨u, rfl, hX, e1⟩
    have e1w : Ext w w1 := Ext.trans inferInstance e1
    have e01 : Ext w0 w1 := Ext.trans ‹Ext w0 w› e1w
    have hw1 := hw'.ext (e := e01)
    generalize stL M k ws r = X at *
    obtain ⟨du, mu, rfl, lu⟩ := hX.form
    clear x0
    go_wp2
    go_loopw [12, 27] (fun m i wr => ∃ q : Nat, q ≤ X.length ∧ i = .int .i64 q ∧ m = .int .i64 (grwTo ws X q) ∧ w1 = wr) (fun _ i _ => X.length - (intOf i).toNat)
    case atStart => exact ⟨0, by omega, rfl, rfl, rfl⟩
    case round =>
      obtain ⟨q, hq2, rfl, rfl, rfl⟩ := hrel
      by_cases hlt : q < X.length
      · have hqw : q < ws.length := by rw [hll.out]; exact hlt
        obtain ⟨bw, ow, hdw, hcw⟩ := hw1.at (w' := w1) hqw
        subst hdw
        obtain ⟨bn, on, hdn, hcn⟩ := hX.at (w' := w1) hlt
        subst hdn
        have h1 := hb1.out q hqw
        have h2 := hb2.out q hlt
        obtain ⟨g2, hg2⟩ : ∃ z, z = grwTo ws X (q + 1) := ⟨_, rfl⟩
        have hgn := hid (show g2 = max (grwTo ws X q) (nth X q - nth ws q) from hg2)
        replace hg2 := hid hg2
        have hgi := (grw_spec (ws := ws) (nx := X) q).1
        generalize grwTo ws X q = g at *
        generalize nth ws q = x at *
        generalize nth X q = y at *
        by_cases hc : g < y - x
        · go_wp2_with fail
          go_roundw
          case rel => exact ⟨q + 1, by omega, by go_num, by rw [← hg2.out, hgn.out], trivial⟩
          case measure => simp [intOf]; omega
        · go_wp2_with fail
          go_roundw
          case rel => exact ⟨q + 1, by omega, by go_num, by rw [← hg2.out, hgn.out], trivial⟩
          case measure => simp [intOf]; omega
      · have hqe : q = X.length := by omega
        subst hqe
        rw [← hr.out]
        go_wp2_with fail
        go_ret2
        exact ⟨ret_tuple2 rfl rfl, e1w⟩
end Go.Proofs.YtmgcfnciejfpbaaGreat
