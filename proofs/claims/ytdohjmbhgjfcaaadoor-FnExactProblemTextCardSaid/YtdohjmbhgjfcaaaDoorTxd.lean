/- The text of a problem: the program's. -/
import Derived.Test.YtdohjmbhgjfcaaaDoorTxc
namespace Go.Proofs.YtdohjmbhgjfcaaaDoor
open Go.RowKit

set_option maxHeartbeats 1600000 in
set_option maxRecDepth 100000 in
theorem implPt_any {v : Value} {M S : List (List Int)} {w0 w : World} [Ext w0 w] (hp : IsProb w0 v M S) (ht : Tens w0) (hmx : Most w0) :
    Calls Tryd.prog 22 #[v] w fun e w' => e = .returned (.tuple #[.string (bsOf (ptR M S)), .bool (probB M S)]) ∧ Ext w w' := by
  have hp' := hp
  obtain ⟨v1, v2, rfl, hM, hS⟩ := hp
  obtain ⟨a1, c1, rfl, l1⟩ := hM.form
  obtain ⟨a2, c2, rfl, l2⟩ := hS.form
  have eb : Ext w (w.alloc (.cells #[.slice a1 M.length c1, .slice a2 S.length c2] 37)) := inferInstance
  have x0 : (w.alloc (.cells #[.slice a1 M.length c1, .slice a2 S.length c2] 37)).cell? ⟨w.heap.size, 0, none⟩ = some (.slice a1 M.length c1) := by go_simp
  have x1 : (w.alloc (.cells #[.slice a1 M.length c1, .slice a2 S.length c2] 37)).cell? ⟨w.heap.size, 1, none⟩ = some (.slice a2 S.length c2) := by go_simp
  replace ht := hid ht
  replace hmx := hid hmx
  go_enter Tryd.func22, Tryd.ntmps22
  go_upto_region 1 with fail
  obtain ⟨bx, hbx⟩ : ∃ q, q = w.heap.size := ⟨_, rfl⟩
  rw [← hbx] at x0 x1 ⊢
  replace hbx := hid hbx
  generalize w.alloc (.cells #[.slice a1 M.length c1, .slice a2 S.length c2] 37) = wb at *
  have e0b : Ext w0 wb := Ext.trans ‹Ext w0 w› eb
  go_wp2_with fail
  with_reducible refine (IsProblem_any (w0 := w0) (w := wb) hp').mono ?_
  rintro e w1 ⟨rfl, e1⟩
  cases hok : probB M S with
  | false =>
    have hv := hid (show ptR M S = [] by rw [ptR, hok]; rfl)
    replace hok := hid hok
    go_wp2_with fail
    refine bodyPost_ret (v := .tuple #[.string { data := #[] }, .bool false]) (by simp [results, Tryd.results22, go_sem]) rfl ?_
    exact ⟨by rw [hv.out, hok.out]; rfl, Ext.trans eb e1⟩
  | true =>
    have hv := hid (show ptR M S = ptL M S by rw [ptR, hok]; rfl)
    obtain ⟨hMl, hSl, hsq, hMr, hSr⟩ := prob_nums hok
    have hmt := hid (fun (u : World) (_ : Ext w0 u) => metricText_any (w0 := w0) (w := u) hM ht.out (by omega) (fun r hr => ⟨by have := (hMr r hr).1; omega, fun x hx => by have := (hMr r hr).2 x hx; omega⟩))
    have hml : (mtL M).length ≤ 1000 := by
      have h := join_len (sep := [59, 32]) (c := 88) (r := M.map spL) fun y hy => by
        obtain ⟨x, hx, rfl⟩ := List.mem_map.1 hy
        have h := hMr x hx
        exact sp_len h.1 (fun z hz => by have := h.2 z hz; omega)
      rw [List.length_map] at h
      have h2 : M.length * (88 + [59, 32].length) ≤ 4 * 90 := Nat.mul_le_mul hMl (by simp)
      unfold mtL
      omega
    have hsx : ∀ r ∈ S, (sxL r).length ≤ 88 := fun r hr => sxL_len (k := 4) (hSr r hr).1 (fun z hz => by have := (hSr r hr).2 z hz; omega)
    have hstl : (stL S).length ≤ 1000 := by
      have h := join_len (sep := [59, 32]) (c := 88) (r := S.map sxL) fun y hy => by
        obtain ⟨x, hx, rfl⟩ := List.mem_map.1 hy
        exact hsx x hx
      rw [List.length_map] at h
      have h2 : S.length * (88 + [59, 32].length) ≤ 4 * 90 := Nat.mul_le_mul hSl (by simp)
      unfold stL
      omega
    replace hok := hid hok
    replace hsq := hid hsq
    replace hMr := hid hMr
    replace hSr := hid hSr
    replace hsx := hid hsx
    have x0 := e1.cell x0
    have x1 := e1.cell x1
    have e01 : Ext w0 w1 := Ext.trans e0b e1
    have own1 : Own (w1.alloc (.cells #[] 9)) w1.heap.size [⟨9, 1, .slice (some ⟨w1.heap.size, 0, none⟩) 0 0, 0, strV ((S.take 0).map sxL)⟩] := (Own.nil w1 w1.heap.size).lit 9 1 0 #[] (Nat.le_refl _) (by unfold maxLen; omega) rfl
    have b1 : Below w1.heap.size w1 (w1.alloc (.cells #[] 9)) := (Below.refl _ w1).alloc (Nat.le_refl _) _
    have el : Ext w1 (w1.alloc (.cells #[] 9)) := inferInstance
    have x0 := el.cell x0
    have x1 := el.cell x1
    go_upto_region 4 with fail
    obtain ⟨B, hB0⟩ : ∃ b, b = w1.heap.size := ⟨_, rfl⟩
    have hEx := hid (show ∀ u, Below B w1 u → Ext w1 u from fun u h => ⟨by rw [← hB0]; exact h⟩)
    have hBs := hid (show ∀ u, Below B w1 u → B ≤ u.heap.size from fun u h => by rw [hB0]; exact h.size)
    have hbl := hid (show ∀ u c v, Below B w1 u → w1.cell? c = some v → u.cell? c = some v from fun u c v h hc => (hEx.out u h).cell hc)
    rw [← hB0] at own1 b1 ⊢
    replace hB0 := hid hB0
    have y0 := e1.cell ‹wb.cell? ⟨bx, 0, none⟩ = _›
    clear x0
    generalize w1.alloc (.cells #[] 9) = w2 at *
    go_wp2_with fail
    go_loopw [4, 14] (fun u i wr => ∃ t : Nat, t ≤ S.length ∧ i = .int .i64 t ∧ Own wr B [⟨9, 1, u, t, strV ((S.take t).map sxL)⟩] ∧ Below B w1 wr) (fun _ i _ => S.length - (intOf i).toNat)
    case atStart => exact ⟨0, by omega, rfl, own1, b1⟩
    case round =>
      clear own1 b1 el
      obtain ⟨t, htl, rfl, own, hbw⟩ := hrel
      obtain ⟨wo, rfl⟩ : ∃ y : World, y = wr := ⟨_, rfl⟩
      obtain ⟨dO, mO, hvO⟩ := own.form
      simp only at hvO
      subst hvO
      have hBo : B ≤ wo.heap.size := hBs.out _ hbw
      have e1o : Ext w1 wo := hEx.out _ hbw
      have e0 : Ext w0 wo := Ext.trans e01 e1o
      by_cases hlt : t < S.length
      · obtain ⟨bq, oq, dr, mr, hdx, hcx, hrr, hrl⟩ := hS.at (w' := wo) hlt
        cases hdx
        obtain ⟨hR4, hr2⟩ := hSr.out _ (row_mem hlt)
        have hr3 : ∀ x ∈ row S t, -1 ≤ x ∧ x ≤ 1000000000000000 := fun x hx => by have := hr2 x hx; omega
        have hr4 : ∀ x ∈ row S t, -1000000000000000 ≤ x ∧ x ≤ 1000000000000000 := fun x hx => by have := hr2 x hx; omega
        have hs : strV ((S.take (t + 1)).map sxL) = strV ((S.take t).map sxL) ++ [.string (bsOf (sxL (row S t)))] := by
          rw [take_succ_row hlt, List.map_append, strV, List.map_append]
          rfl
        obtain ⟨R, hR⟩ : ∃ x, x = row S t := ⟨_, rfl⟩
        rw [← hR] at hcx hs hR4 hr3 hr4 hrr hrl
        replace hR := hid hR
        replace hs := hid hs
        replace hr3 := hid hr3
        replace hr4 := hid hr4
        have htw := hid (ht.out.ext (w' := wo))
        have hrr' := hid (hrr.ext (w' := wo))
        clear hrr hr2
        go_wp2_with fail
        with_reducible refine (spaced_any (w0 := wo) (w := wo) hrr'.out htw.out (by omega) hr4.out).mono ?_
        rintro e w5 ⟨rfl, e5⟩
        have own5 := own.ext (w' := w5)
        have b5 : Below B w1 w5 := hbw.trans (e5.below.mono hBo)
        have hB5 := hBs.out _ b5
        have e05 : Ext w0 w5 := Ext.trans e0 e5
        have hmw := hid (hmx.out.ext (w' := w5))
        clear own
        go_wp2_with fail
        with_reducible refine (replace_any hmw.out (by omega) hr3.out).mono ?_
        rintro e w6 ⟨rfl, e6⟩
        have own6 := own5.ext (w' := w6)
        have b6 : Below B w1 w6 := b5.trans (e6.below.mono hB5)
        have hB6 := hBs.out _ b6
        obtain ⟨sx', hsx'⟩ : ∃ s, s = bsOf (sxL R) := ⟨_, rfl⟩
        rw [← hsx'] at hs ⊢
        replace hsx' := hid hsx'
        clear own5
        go_wp2_with (at_builtin; refine wpList_append1 rfl _ _ _ rfl elemStr rfl own6 hB6 rfl rfl (by omega) (by omega) ?_; intro v7 w7 ho7 hb7)
        go_roundw
        case rel => exact ⟨t + 1, by omega, by go_num, by rw [hs.out]; exact ho7, b6.trans hb7⟩
        case measure => simp [intOf]; omega
      · have htX : t = S.length := by omega
        have xo0 := e1o.cell y0
        have xo1 := hbl.out wo _ _ hbw (e1.cell ‹wb.cell? ⟨bx, 1, none⟩ = _›)
        rw [htX, List.take_length] at own
        replace htX := hid htX
        go_wp2_with fail
        with_reducible refine (metric_any (w0 := w0) (w := wo) hM hS).mono ?_
        rintro e w5 ⟨rfl, e5⟩
        have e05 : Ext w0 w5 := Ext.trans e0 e5
        have own5 := own.ext (w' := w5)
        clear own
        go_wp2_with fail
        with_reducible refine (hmt.out w5 e05).mono ?_
        rintro e w6 ⟨rfl, e6⟩
        have own6 := own5.ext (w' := w6)
        have hJ := joinS_any own6 (by simp) [59, 32] (c := 88) (fun y hy => by
          obtain ⟨x, hx, rfl⟩ := List.mem_map.1 hy
          exact hsx.out x hx) (by omega) (by simp; omega) (by simp)
        have hJ2 : Calls Tryd.prog 86 #[.slice dO t mO, .string { data := #[59, 32] }] w6 fun e w' => e = .returned (.string (bsOf (stL S))) ∧ Ext w6 w' := by
          rw [htX.out]
          exact hJ
        replace hJ2 := hid hJ2
        clear hJ own5 own6
        obtain ⟨T0, hT0⟩ : ∃ s, s = bsOf (mtL M) := ⟨_, rfl⟩
        have ht0 : T0.size ≤ 1000 := by rw [hT0, bsOf_size]; exact hml
        obtain ⟨J, hJe⟩ : ∃ s, s = bsOf (stL S) := ⟨_, rfl⟩
        have hj0 : J.size ≤ 1000 := by rw [hJe, bsOf_size]; exact hstl
        have hfin : T0 ++ { data := #[32, 124, 32] } ++ J = bsOf (ptR M S) := by
          rw [hT0, hJe, show ({ data := #[32, 124, 32] } : ByteArray) = bsOf [32, 124, 32] from rfl, bsOf_append, bsOf_append, hv.out]
          rfl
        rw [← hT0]
        rw [← hJe] at hJ2
        replace hT0 := hid hT0
        replace hJe := hid hJe
        replace hfin := hid hfin
        have hszT : ¬ 9223372036854775807 < T0.size + 3 := by omega
        have hszU : ¬ 9223372036854775807 < T0.size + 3 + J.size := by omega
        go_wp2_with fail
        with_reducible refine hJ2.out.mono ?_
        rintro e w7 ⟨rfl, e7⟩
        go_wp2_with fail
        refine bodyPost_ret (v := .tuple #[.string (bsOf (ptR M S)), .bool true]) (by simp [results, Tryd.results22, go_sem, hfin.out]) rfl ?_
        exact ⟨by rw [hok.out], Ext.trans eb (Ext.trans e1 (Ext.trans e1o (Ext.trans e5 (Ext.trans e6 e7))))⟩
end Go.Proofs.YtdohjmbhgjfcaaaDoor
