/- SupportOf of the reference. -/
import Derived.Test.YtkibmjenjgijmaaSpS
import Derived.Test.YtkibmjenjgijmaaCfgO
import Derived.Test.YtkibmjenjgijmaaTbs
namespace Go.Proofs.Ytkibmjenjgijmaa
open Go.RowKit

set_option maxHeartbeats 3200000 in
set_option maxRecDepth 100000 in
theorem specSup_any {v vw : Value} {M : List (List Int)} {ws : List Int} {k : Int} {w0 w : World} [Ext w0 w] (hm : IsMet w0 v M) (hw : IsInts w0 vw ws) :
    Calls Try.prog 10 #[v, .int .i64 k, vw] w fun e w' => ∃ u, e = .returned (.tuple #[u, .bool (iwB M k ws)]) ∧ IsRows w' u (supR M k ws) ∧ Ext w w' := by
  have hm' := hm
  obtain ⟨v1, rfl, hR⟩ := hm
  obtain ⟨a1, c1, rfl, l1⟩ := hR.form
  have hw' := hw
  obtain ⟨dw, mw, rfl, lw⟩ := hw.form
  have xw : (w.alloc (.cells #[.slice a1 M.length c1] 26)).cell? ⟨w.heap.size, 0, none⟩ = some (.slice a1 M.length c1) := by go_simp
  have ew : Ext w (w.alloc (.cells #[.slice a1 M.length c1] 26)) := inferInstance
  go_enter Try.func10, Try.ntmps10
  go_upto_region 1 with fail
  generalize w.heap.size = bx at *
  generalize w.alloc (.cells #[.slice a1 M.length c1] 26) = wz at *
  have e0z : Ext w0 wz := Ext.trans ‹Ext w0 w› ew
  have own0 : Own (wz.alloc (.cells #[] 27)) wz.heap.size [⟨27, 1, .slice (some ⟨wz.heap.size, 0, none⟩) 0 0, 0, []⟩] := (Own.nil wz wz.heap.size).lit 27 1 0 #[] (Nat.le_refl _) (by unfold maxLen; omega) rfl
  have hb0 : Below wz.heap.size wz (wz.alloc (.cells #[] 27)) := (Below.refl _ wz).alloc (Nat.le_refl _) _
  obtain ⟨B, hB⟩ : ∃ z, z = wz.heap.size := ⟨_, rfl⟩
  rw [← hB] at own0 hb0
  have hE := hid (show ∀ u, Below B wz u → Ext wz u from fun u h => ⟨by rw [← hB]; exact h⟩)
  have hBs := hid (show ∀ u, Ext wz u → B ≤ u.heap.size from fun u e => by rw [hB]; exact e.size)
  go_upto_region 2 with fail
  rw [← hB]
  replace hB := hid hB
  generalize wz.alloc (.cells #[] 27) = w1 at *
  have ez1 : Ext wz w1 := hE.out _ hb0
  have e01 : Ext w0 w1 := Ext.trans e0z ez1
  have x1 := ez1.cell xw
  cases hq : iwB M k ws with
  | false =>
    have hr := hid (show supR M k ws = [] by rw [supR, hq]; rfl)
    have hgv := hid (show givB M k ws 0 = false by rw [giv_iw, hq])
    replace hq := hid hq
    go_wp2_with fail
    with_reducible refine (l7Given_any (w0 := w0) hm' hw').mono ?_
    rw [hgv.out]
    rintro e w2 ⟨rfl, e2⟩
    go_wp2_with fail
    go_ret2
    exact ⟨_, ret_tuple2 rfl (by rw [hq.out]; rfl), by rw [hr.out]; exact ⟨_, _, rfl, by unfold ShortRows; simp, fun j hj => by simp at hj⟩, Ext.trans ew (Ext.trans ez1 e2)⟩
  | true =>
    have hqa : (askB M k && workB M (confs M.length k.toNat 0) ws) = true := hq
    simp only [Bool.and_eq_true] at hqa
    obtain ⟨hM, hk1, hk3⟩ := askB_iff.1 hqa.1
    obtain ⟨kn, rfl⟩ := Int.eq_ofNat_of_zero_le (show 0 ≤ k by omega)
    rw [Int.toNat_natCast] at hqa
    have hMl := met_len hM
    have hkn : kn ≤ 3 := by omega
    have h216 := confs_216 hMl.2 hkn
    have hg := hid (work_good (M := M) (P := confs M.length kn 0) (ws := ws) hqa.2)
    have hgv := hid (show givB M kn ws 0 = true by rw [giv_iw, hq])
    have hsr := hid (show supR M kn ws = (supTo M (confs M.length kn 0) ws (confs M.length kn 0).length).map (row (confs M.length kn 0)) by rw [supR, if_pos hq, Int.toNat_natCast])
    have hsl := sup_len (M := M) (P := confs M.length kn 0) (ws := ws) (confs M.length kn 0).length
    have hsm := hid (fun (q : Nat) (h : q ∈ supTo M (confs M.length kn 0) ws (confs M.length kn 0).length) => (sup_mem.1 h).1)
    have hrow := hid (confs_rows (n := M.length) (k := kn) (f := 0) hMl.2 hkn)
    have hM' := hid hM
    replace hq := hid hq
    clear hM hqa
    go_wp2_with fail
    with_reducible refine (l7Given_any (w0 := w0) hm' hw').mono ?_
    rw [hgv.out]
    rintro e w2 ⟨rfl, e2⟩
    have x2 := e2.cell x1
    have own2 := own0.ext (w' := w2)
    have hb2 : Below B wz w2 := hb0.trans (e2.below.mono (hBs.out _ ez1))
    have hB2 : B ≤ w2.heap.size := Nat.le_trans (hBs.out _ ez1) e2.size
    clear own0 hb0 x1
    go_wp2_with fail
    with_reducible refine (l6ConfigsO_any (n := M.length) (k := kn) hMl.2 hkn w2).mono ?_
    rintro e w3 ⟨vP, RP, rfl, tabP, e3⟩
    have hcp := confs_pos (k := kn) hMl.1
    obtain ⟨gP, cP, rfl⟩ := tabP.place (by omega)
    obtain ⟨vsP, hvP, ownP⟩ := tabP
    have hPi : IsRows w3 _ _ := Own.readsAll (e1 := 27) (e2 := 3) ownP hvP hrow.out.1 hrow.out.2.1 hrow.out.2.2
    have x3 := e3.cell x2
    have e03 : Ext w0 w3 := Ext.trans e01 (Ext.trans e2 e3)
    have hm3 := hm'.ext (e := e03)
    have hw3 := hw'.ext (e := e03)
    have hsup := hid (fun (u : World) => l7Support_any (w0 := w3) (w := w3) hm3 hM'.out hPi hw3 hkn hg.out)
    obtain ⟨T, hT⟩ : ∃ z, z = supTo M (confs M.length kn 0) ws (confs M.length kn 0).length := ⟨_, rfl⟩
    rw [← hT] at hsr hsl hsm hsup
    replace hT := hid hT
    obtain ⟨P, hP⟩ : ∃ z, z = confs M.length kn 0 := ⟨_, rfl⟩
    rw [← hP] at h216 hcp hrow hsr hsl hsm hvP ownP hPi hg hsup ⊢
    replace hP := hid hP
    have own3 : Own w3 B ((rowsOf 27 3 (.slice (some ⟨gP, 0, none⟩) P.length cP) vsP P ++ RP) ++ [⟨27, 1, .slice (some ⟨B, 0, none⟩) 0 0, 0, []⟩]) := Own.join own2 ownP (hB := hB2)
    have hb3 : Below B wz w3 := hb2.trans (e3.below.mono hB2)
    have hB3 : B ≤ w3.heap.size := Nat.le_trans hB2 e3.size
    obtain ⟨K, hKd⟩ : ∃ z, z = rowsOf 27 3 (.slice (some ⟨gP, 0, none⟩) P.length cP) vsP P ++ RP := ⟨_, rfl⟩
    rw [← hKd] at own3
    obtain ⟨pv, hpv⟩ : ∃ f : Nat → Value, f = fun i => vsP.getD i undef := ⟨_, rfl⟩
    have hK := hid (show ∀ u B', Own u B' K → ∀ i, i < P.length → u.cell? ⟨gP, i, none⟩ = some (pv i) ∧ IsInts u (pv i) (row P i) from fun u B' o => by
      rw [hKd] at o
      rw [hpv]
      exact own_tab o hvP rfl hrow.out.2.1 hrow.out.2.2)
    clear own2 ownP hvP hKd hpv hb2 x2
    go_wp2_with fail
    with_reducible refine (hsup.out w3).mono ?_
    rintro e w4 ⟨u4, rfl, own4', e4⟩
    have own4 : Own w4 B (⟨27, 1, .slice (some ⟨B, 0, none⟩) 0 0, ((T.take 0).map pv).length, (T.take 0).map pv⟩ :: (intRowOf 3 u4 (T.map fun q : Nat => (q : Int)) :: K)) := (Own.join own3 own4' (hB := hB3)).perm (List.perm_append_singleton _ _).symm
    have hb4 : Below B wz w4 := hb3.trans (e4.below.mono hB3)
    obtain ⟨du, mu, hu4⟩ := (own4.tail).form
    have hu4' : u4 = .slice du (T.map fun q : Nat => (q : Int)).length mu := hu4
    subst hu4'
    obtain ⟨LV, hLV⟩ : ∃ z, z = (T.map fun q : Nat => (q : Int)).map (Value.int .i64) := ⟨_, rfl⟩
    have own5 : Own w4 B (⟨27, 1, .slice (some ⟨B, 0, none⟩) 0 0, 0, (T.take 0).map pv⟩ :: (⟨3, 1, .slice du T.length mu, T.length, LV⟩ :: K)) := by
      have h := own4
      unfold intRowOf at h
      rw [← hLV] at h
      simp only [List.length_map, List.take_zero, List.length_nil] at h
      exact h
    rw [List.length_map]
    replace hLV := hid hLV
    clear own3 own4' hb3 hu4 hsup hm3 hw3 own4
    go_wp2_with fail
    go_loopw [8, 11] (fun ov tv wr => ∃ t : Nat, t ≤ T.length ∧ tv = .int .i64 t ∧ Own wr B (⟨27, 1, ov, t, (T.take t).map pv⟩ :: (⟨3, 1, .slice du T.length mu, T.length, LV⟩ :: K)) ∧ Below B wz wr) (fun _ tv _ => T.length - (intOf tv).toNat)
    case atStart => exact ⟨0, by omega, rfl, own5, hb4⟩
    case round =>
      clear own5 hb4
      obtain ⟨t, ht, rfl, own, hb⟩ := hrel
      obtain ⟨wo, rfl⟩ : ∃ y : World, y = wr := ⟨_, rfl⟩
      obtain ⟨dO, mO, hvO⟩ := own.form
      simp only at hvO
      subst hvO
      have eo : Ext wz wo := hE.out _ hb
      have hBo := hBs.out _ eo
      by_cases hlt : t < T.length
      · obtain ⟨gu, rfl⟩ := own.tail.at hlt
        have hcu := own.tail.cellAt (w' := wo) hlt
        have hcu' : wo.cell? ⟨gu, t, none⟩ = some (.int .i64 (T[t]'hlt)) := by rw [hcu, hLV.out]; simp [List.getD, hlt]
        have hqm := hsm.out (T[t]'hlt) (List.getElem_mem hlt)
        have htk : (T.take (t + 1)).map pv = (T.take t).map pv ++ [pv (T[t]'hlt)] := by rw [← List.take_append_getElem hlt, List.map_append]; rfl
        generalize T[t]'hlt = q at *
        obtain ⟨hcq, hiq⟩ := hK.out _ _ own.tail.tail q hqm
        obtain ⟨dq, mq, hfq, _⟩ := hiq.form
        rw [hfq] at hcq htk
        replace htk := hid htk
        replace hfq := hid hfq
        clear hcu hiq
        go_wp2_with (at_builtin; refine wpList_append1 rfl _ _ _ rfl elemInts rfl own hBo rfl rfl (by omega) (by omega) ?_; intro v7 w7 ho hb7)
        go_roundw
        case rel => exact ⟨t + 1, by omega, by go_num, by rw [htk.out]; exact ho, hb.trans hb7⟩
        case measure => simp [intOf]; omega
      · have hte : t = T.length := by omega
        subst hte
        go_wp2_with fail
        have ownv : Own wo B (valRowOf 27 (.slice dO T.length mO) (T.map pv) :: (⟨3, 1, .slice du T.length mu, T.length, LV⟩ :: K)) := by
          have h := own
          rw [List.take_length] at h
          unfold valRowOf
          rw [List.length_map]
          exact h
        have hro := ownv.readsRows (xss := T.map (row P)) (by unfold ShortRows; rw [List.length_map]; omega) (by simp) (fun i hi => by
          rw [List.length_map] at hi
          have hm := (hK.out _ _ own.tail.tail (T[i]'hi) (hsm.out _ (List.getElem_mem hi))).2
          simpa [row, List.getD, hi] using hm)
        go_ret2
        refine ⟨_, ret_tuple2 rfl (by rw [hq.out]; rfl), by rw [hsr.out]; exact hro, Ext.trans ew eo⟩
end Go.Proofs.Ytkibmjenjgijmaa
