/- The first break of the exchanges, the reference's. -/
import Derived.Test.YtmgcfnciejfpbaaGreatQExS
namespace Go.Proofs.YtmgcfnciejfpbaaGreat
open Go.RowKit

theorem giv0 {M : List (List Int)} {k : Int} {ws : List Int} : givB M k ws 0 = (metB M && (inB k 1 3 && workB M (confs M.length k.toNat 0) ws)) := by
  cases hM : metB M with
  | false => simp [givB, askB, hM]
  | true =>
    have := met_len hM
    have h : inB 0 0 ((M.length : Int) - 1) = true := inB_true.2 (by omega)
    simp [givB, askB, hM, h]
set_option maxHeartbeats 3200000 in
set_option maxRecDepth 100000 in
theorem specExb_any {v vw : Value} {M : List (List Int)} {ws : List Int} {k : Int} {w0 w : World} [Ext w0 w] (hm : IsMet w0 v M) (_hk : I64 k) (hw : IsInts w0 vw ws) :
    Calls Tryz.prog 55 #[v, .int .i64 k, vw] w fun e w' => ∃ d0 m0 d1 m1, e = .returned (.tuple #[.slice d0 (exbX M k ws).length m0, .slice d1 (exbY M k ws).length m1, .int .i64 (exbP M k ws), .bool (exbB M k ws)]) ∧ IsInts w' (.slice d0 (exbX M k ws).length m0) (exbX M k ws) ∧ IsInts w' (.slice d1 (exbY M k ws).length m1) (exbY M k ws) ∧ Ext w w' := by
  have hm' := hm
  obtain ⟨v1, rfl, hR⟩ := hm
  obtain ⟨a1, c1, rfl, l1⟩ := hR.form
  have hw' := hw
  obtain ⟨dw, mw, rfl, lw⟩ := hw.form
  have x0 : (w.alloc (.cells #[.slice a1 M.length c1] 26)).cell? ⟨w.heap.size, 0, none⟩ = some (.slice a1 M.length c1) := by go_simp
  cases hG : givB M k ws 0 with
  | false =>
    have hr := hid (exb_none (show exbO M k ws = none by rw [exbO, ← giv0, hG]; rfl))
    replace hG := hid hG
    go_enter Tryz.func55, Tryz.ntmps55
    go_wp2_with fail
    with_reducible refine (l7Given_any (w0 := w0) hm' hw').mono ?_
    rw [hG.out]
    rintro e w1 ⟨rfl, e1⟩
    go_wp2_with fail
    (try simp only [Exit.inBlock, Exit.then]); refine bodyPost_ret (results_tmp4 rfl _ _ _) rfl ?_
    rw [hr.out.1, hr.out.2.1, hr.out.2.2.1, hr.out.2.2.2]
    exact ⟨_, _, _, _, rfl, isInts_zero _ _ _, isInts_zero _ _ _, Ext.trans inferInstance (Ext.trans e1 inferInstance)⟩
  | true =>
    obtain ⟨hM, hk, _, hwb⟩ := giv_parts hG
    obtain ⟨kn, rfl⟩ := Int.eq_ofNat_of_zero_le (show 0 ≤ k by omega)
    rw [Int.toNat_natCast] at hwb
    have hkn : kn ≤ 3 := by omega
    have hk1n : 1 ≤ kn := by omega
    have hg := hid (work_good hwb)
    have hO := hid (show exbO M kn ws = exR (confs M.length kn 0) ws kn by rw [exbO, ← giv0, hG, Int.toNat_natCast]; rfl)
    have hexs := hid (fun (i j s : Nat) => @exb_some M kn ws i j s)
    have hexn := hid (@exb_none M kn ws)
    rw [Int.toNat_natCast] at hexs
    have hMl := met_len hM
    have h216 := confs_216 hMl.2 hkn
    have hPm := hid (show ∀ i, i < (confs M.length kn 0).length → (row (confs M.length kn 0) i).length = kn ∧ ∀ z ∈ row (confs M.length kn 0) i, I64 z from fun i hi => by
      obtain ⟨h1, h2, _⟩ := row_conf hi
      exact ⟨h1, pts_i64 h2 (by omega)⟩)
    have hlwc := hid hg.out.1.1
    have hwbc := hid (show ∀ j, j < (confs M.length kn 0).length → 0 ≤ nth ws j ∧ nth ws j ≤ 1000000 from fun j hj => by have := hg.out.2 j hj; omega)
    clear hM hwb
    replace hG := hid hG
    go_enter Tryz.func55, Tryz.ntmps55
    go_wp2_with fail
    with_reducible refine (l7Given_any (w0 := w0) hm' hw').mono ?_
    rw [hG.out]
    rintro e w1 ⟨rfl, e1⟩
    have x1 := e1.cell x0
    have e1w : Ext w w1 := Ext.trans inferInstance e1
    clear x0 e1
    go_wp2_with fail
    refine (l6Configs_any (n := M.length) (k := kn) hMl.2 hkn _).mono ?_
    rintro e wP ⟨vP, rfl, hP, eP⟩
    have ePw : Ext w wP := Ext.trans e1w eP
    have e0P : Ext w0 wP := Ext.trans ‹Ext w0 w› ePw
    clear x1 eP
    obtain ⟨P, hPd⟩ : ∃ p, p = confs M.length kn 0 := ⟨_, rfl⟩
    rw [← hPd] at hP hPm h216 hO hexs
    have hhit := hid (fun (i j s : Nat) => @exR_hit P ws kn i j s)
    have hmiss := hid (@exR_miss P ws kn)
    replace hPd := hid hPd
    have hP' := hP
    obtain ⟨aP, cP, rfl, lP⟩ := hP.form
    go_wp2_with fail
    go_loopw [11] (fun i wr => ∃ q : Nat, q ≤ P.length ∧ i = .int .i64 q ∧ Hid (∀ z, z < q → exS1 P ws kn z = none) ∧ Ext wP wr) (fun i _ => P.length - (intOf i).toNat)
    case atStart => exact ⟨0, by omega, rfl, fun z hz => by omega, Ext.refl _⟩
    case round =>
      obtain ⟨i, hi, rfl, hno1, hx1⟩ := hrel
      obtain ⟨wo, rfl⟩ : ∃ z : World, z = wr := ⟨_, rfl⟩
      by_cases hlti : i < P.length
      · go_wp2_with fail
        go_loopw [12] (fun i' wr => ∃ q : Nat, q ≤ P.length ∧ i' = .int .i64 q ∧ Hid (∀ z, z < q → exS2 P ws kn i z = none) ∧ Ext wP wr) (fun i' _ => P.length - (intOf i').toNat)
        case atStart => exact ⟨0, by omega, rfl, fun z hz => by omega, hx1⟩
        case round =>
          obtain ⟨j, hj, rfl, hno2, hx2⟩ := hrel
          obtain ⟨wp, rfl⟩ : ∃ z : World, z = wr := ⟨_, rfl⟩
          by_cases hltj : j < P.length
          · go_wp2_with fail
            go_loopw [13] (fun i' wr => ∃ q : Nat, q ≤ kn ∧ i' = .int .i64 q ∧ Hid (∀ z, z < q → exS3 P ws i j z = none) ∧ Ext wP wr) (fun i' _ => kn - (intOf i').toNat)
            case atStart => exact ⟨0, by omega, rfl, fun z hz => by omega, hx2⟩
            case round =>
              obtain ⟨s, hs, rfl, hno3, hx3⟩ := hrel
              obtain ⟨wq, rfl⟩ : ∃ z : World, z = wr := ⟨_, rfl⟩
              by_cases hlts : s < kn
              · have eq := hx3
                have e0q : Ext w0 wq := Ext.trans e0P eq
                obtain ⟨bP, oP, d1, m1, hdP, hc1, hi1, _⟩ := hP.at (w' := wP) hlti
                cases hdP
                obtain ⟨bP2, oP2, d2, m2, hdP2, hc2, hi2, _⟩ := hP.at (w' := wP) hltj
                cases hdP2
                have hxc := hid (show row P i ∈ confs M.length kn 0 by rw [← hPd.out]; exact row_mem hlti)
                have hyc := hid (show row P j ∈ confs M.length kn 0 by rw [← hPd.out]; exact row_mem hltj)
                have hxl := (hPm.out i hlti)
                have hyl := (hPm.out j hltj)
                have hsx : s < (row P i).length := by rw [hxl.1]; exact hlts
                obtain ⟨bx1, ox1, hdx, hcs⟩ := hi1.at (w' := wP) hsx
                cases hdx
                have hSx := hid (show ∀ u, Ext wq u → u.cell? ⟨bP, oP + i, none⟩ = some (.slice (some ⟨bx1, ox1, none⟩) (row P i).length m1) ∧ u.cell? ⟨bP, oP + j, none⟩ = some (.slice d2 (row P j).length m2) from fun u e => ⟨(Ext.trans eq e).cell hc1, (Ext.trans eq e).cell hc2⟩)
                cases hok0 : exOk (confs M.length kn 0) ws (row P i) (row P j) s with
                | true =>
                  have hok := hid hok0
                  have hno4 := hid (show ∀ z, z < s + 1 → exS3 P ws i j z = none from fun z hz => by
                    by_cases e : z = s
                    · rw [e]; exact exS3_ok (by rw [hPd.out]; rw [hPd.out] at hok0; exact hok0)
                    · exact hno3.out z (by omega))
                  clear hok0
                  replace hxl := hid hxl
                  replace hyl := hid hyl
                  obtain ⟨x, hxd⟩ : ∃ z, z = row P i := ⟨_, rfl⟩
                  obtain ⟨y, hyd⟩ : ∃ z, z = row P j := ⟨_, rfl⟩
                  rw [← hxd] at hc1 hi1 hxc hSx hok hsx hcs hxl
                  rw [← hyd] at hc2 hi2 hyc hSx hok hyl
                  replace hxd := hid hxd
                  replace hyd := hid hyd
                  go_wp2_with fail
                  refine region_held_from (w0 := wq) (S := fun u => u.cell? ⟨bP, oP + i, none⟩ = some (.slice (some ⟨bx1, ox1, none⟩) x.length m1) ∧ u.cell? ⟨bP, oP + j, none⟩ = some (.slice d2 y.length m2)) (by kernel_rfl) hSx.out (fun wd ed hHeld0 => ?_)
                  have ePd : Ext wP wd := Ext.trans eq ed
                  refine wpAnyH_take (i := 0) (v := .slice (some ⟨bP, oP, none⟩) P.length cP) rfl (by kernel_rfl) (by kernel_rfl) (by kernel_rfl) (fun _ _ _ h => h) (Or.inl ⟨by rfl, by intro wx hx; go_simp⟩) (by assumption) ?_
                  try simp only [List.getElem_toArray, List.getElem_cons_zero, Act.put, List.setIfInBounds_toArray, List.set_cons_zero, List.set_cons_succ]
                  refine wpAnyH_take (i := 1) (v := .slice dw ws.length mw) rfl (by kernel_rfl) (by kernel_rfl) (by kernel_rfl) (fun _ _ _ h => h) (Or.inl ⟨by rfl, by intro wx hx; go_simp⟩) (by assumption) ?_
                  try simp only [List.getElem_toArray, List.getElem_cons_succ, List.getElem_cons_zero, Act.put, List.setIfInBounds_toArray, List.set_cons_zero, List.set_cons_succ]
                  refine wpAnyH_take (i := 2) (v := .slice (some ⟨bP, oP, none⟩) P.length cP) rfl (by kernel_rfl) (by kernel_rfl) (by kernel_rfl) (fun _ _ _ h => h) (Or.inl ⟨by rfl, by intro wx hx; go_simp⟩) (by assumption) ?_
                  try simp only [List.getElem_toArray, List.getElem_cons_succ, List.getElem_cons_zero, Act.put, List.setIfInBounds_toArray, List.set_cons_zero, List.set_cons_succ]
                  refine wpAnyH_take (i := 3) (v := .int .i64 i) rfl (by kernel_rfl) (by kernel_rfl) (by kernel_rfl) (fun _ _ _ h => h) (Or.inl ⟨by rfl, by intro wx hx; go_simp⟩) (by assumption) ?_
                  try simp only [List.getElem_toArray, List.getElem_cons_succ, List.getElem_cons_zero, Act.put, List.setIfInBounds_toArray, List.set_cons_zero, List.set_cons_succ]
                  refine wpAnyH_take (i := 4) (v := .pointer (some ⟨bP, oP + i, none⟩)) rfl (by kernel_rfl) (by kernel_rfl) (by kernel_rfl) (fun _ _ _ h => h) (Or.inl ⟨by rfl, by intro wx hx; go_simp⟩) (by assumption) ?_
                  try simp only [List.getElem_toArray, List.getElem_cons_succ, List.getElem_cons_zero, Act.put, List.setIfInBounds_toArray, List.set_cons_zero, List.set_cons_succ]
                  refine wpAnyH_take (i := 5) (v := .slice (some ⟨bx1, ox1, none⟩) x.length m1) rfl (by kernel_rfl) (by kernel_rfl) (by kernel_rfl) (fun _ _ _ h => h) (Or.inl ⟨by rfl, by intro wx hx; obtain ⟨_, _⟩ := hx; go_simp⟩) (by assumption) ?_
                  try simp only [List.getElem_toArray, List.getElem_cons_succ, List.getElem_cons_zero, Act.put, List.setIfInBounds_toArray, List.set_cons_zero, List.set_cons_succ]
                  refine wpAnyH_take (i := 6) (v := .slice (some ⟨bP, oP, none⟩) P.length cP) rfl (by kernel_rfl) (by kernel_rfl) (by kernel_rfl) (fun _ _ _ h => h) (Or.inl ⟨by rfl, by intro wx hx; go_simp⟩) (by assumption) ?_
                  try simp only [List.getElem_toArray, List.getElem_cons_succ, List.getElem_cons_zero, Act.put, List.setIfInBounds_toArray, List.set_cons_zero, List.set_cons_succ]
                  refine wpAnyH_take (i := 7) (v := .int .i64 j) rfl (by kernel_rfl) (by kernel_rfl) (by kernel_rfl) (fun _ _ _ h => h) (Or.inl ⟨by rfl, by intro wx hx; go_simp⟩) (by assumption) ?_
                  try simp only [List.getElem_toArray, List.getElem_cons_succ, List.getElem_cons_zero, Act.put, List.setIfInBounds_toArray, List.set_cons_zero, List.set_cons_succ]
                  refine wpAnyH_take (i := 8) (v := .pointer (some ⟨bP, oP + j, none⟩)) rfl (by kernel_rfl) (by kernel_rfl) (by kernel_rfl) (fun _ _ _ h => h) (Or.inl ⟨by rfl, by intro wx hx; go_simp⟩) (by assumption) ?_
                  try simp only [List.getElem_toArray, List.getElem_cons_succ, List.getElem_cons_zero, Act.put, List.setIfInBounds_toArray, List.set_cons_zero, List.set_cons_succ]
                  refine wpAnyH_take (i := 9) (v := .slice d2 y.length m2) rfl (by kernel_rfl) (by kernel_rfl) (by kernel_rfl) (fun _ _ _ h => h) (Or.inl ⟨by rfl, by intro wx hx; obtain ⟨_, _⟩ := hx; go_simp⟩) (by assumption) ?_
                  try simp only [List.getElem_toArray, List.getElem_cons_succ, List.getElem_cons_zero, Act.put, List.setIfInBounds_toArray, List.set_cons_zero, List.set_cons_succ]
                  refine wpAnyH_take (i := 10) (v := .int .i64 s) rfl (by kernel_rfl) (by kernel_rfl) (by kernel_rfl) (fun _ _ _ h => h) (Or.inl ⟨by rfl, by intro wx hx; go_simp⟩) (by assumption) ?_
                  try simp only [List.getElem_toArray, List.getElem_cons_succ, List.getElem_cons_zero, Act.put, List.setIfInBounds_toArray, List.set_cons_zero, List.set_cons_succ]
                  refine wpAnyH_ready (rs := [11]) (by kernel_rfl) (by simp) ?_
                  refine AllReadyH.cons rfl (fun K hK => ?_) AllReadyH.nil
                  go_simp
                  go_at_call 116
                  refine (l7Exchanges_any (n := M.length) (k := kn) (w0 := wP) (by rw [← hPd.out]; exact hP') (hw'.ext (e := e0P)) hi1 hi2 hMl.2 hkn hxc.out hyc.out hlts hlwc.out hwbc.out).mono ?_
                  rw [hok.out]
                  rintro e w5 ⟨rfl, e5⟩
                  have e5q : Ext wq w5 := Ext.trans ed e5
                  have hS5 := hSx.out w5 e5q
                  go_wp2_with fail
                  refine hK.out _ _ hS5 (fun _ => ?_)
                  clear hK K
                  try simp only [List.getElem_toArray, List.getElem_cons_succ, List.getElem_cons_zero, Act.put, List.setIfInBounds_toArray, List.set_cons_zero, List.set_cons_succ]
                  refine wpAnyH_take (i := 12) (v := .bool false) rfl (by kernel_rfl) (by kernel_rfl) (by kernel_rfl) (fun _ _ _ h => h) (Or.inl ⟨by rfl, by intro wx hx; go_simp⟩) (by assumption) ?_
                  try simp only [List.getElem_toArray, List.getElem_cons_succ, List.getElem_cons_zero, Act.put, List.setIfInBounds_toArray, List.set_cons_zero, List.set_cons_succ]
                  refine wpAnyH_done (by kernel_rfl) ?_ _
                  go_wp2_with fail
                  go_roundw
                  case rel => exact ⟨s + 1, by omega, by go_num, hno4.out, Ext.trans eq e5q⟩
                  case measure => simp [intOf]; omega
                | false =>
                  have hok := hid hok0
                  have hfin := hid (hexs.out i j s (by rw [hO.out]; exact hhit.out i j s hno1.out hno2.out hno3.out hlti hltj hlts (by rw [hPd.out]; rw [hPd.out] at hok0; exact hok0)))
                  clear hok0
                  replace hxl := hid hxl
                  replace hyl := hid hyl
                  obtain ⟨x, hxd⟩ : ∃ z, z = row P i := ⟨_, rfl⟩
                  obtain ⟨y, hyd⟩ : ∃ z, z = row P j := ⟨_, rfl⟩
                  rw [← hxd] at hc1 hi1 hxc hSx hok hsx hcs hfin hxl
                  rw [← hyd] at hc2 hi2 hyc hSx hok hfin hyl
                  obtain ⟨xs, hxs⟩ : ∃ z, z = nth x s := ⟨_, rfl⟩
                  rw [← hxs] at hcs hfin
                  replace hxd := hid hxd
                  replace hyd := hid hyd
                  replace hxs := hid hxs
                  go_wp2_with fail
                  refine region_held_from (w0 := wq) (S := fun u => u.cell? ⟨bP, oP + i, none⟩ = some (.slice (some ⟨bx1, ox1, none⟩) x.length m1) ∧ u.cell? ⟨bP, oP + j, none⟩ = some (.slice d2 y.length m2)) (by kernel_rfl) hSx.out (fun wd ed hHeld0 => ?_)
                  have ePd : Ext wP wd := Ext.trans eq ed
                  refine wpAnyH_take (i := 0) (v := .slice (some ⟨bP, oP, none⟩) P.length cP) rfl (by kernel_rfl) (by kernel_rfl) (by kernel_rfl) (fun _ _ _ h => h) (Or.inl ⟨by rfl, by intro wx hx; go_simp⟩) (by assumption) ?_
                  try simp only [List.getElem_toArray, List.getElem_cons_zero, Act.put, List.setIfInBounds_toArray, List.set_cons_zero, List.set_cons_succ]
                  refine wpAnyH_take (i := 1) (v := .slice dw ws.length mw) rfl (by kernel_rfl) (by kernel_rfl) (by kernel_rfl) (fun _ _ _ h => h) (Or.inl ⟨by rfl, by intro wx hx; go_simp⟩) (by assumption) ?_
                  try simp only [List.getElem_toArray, List.getElem_cons_succ, List.getElem_cons_zero, Act.put, List.setIfInBounds_toArray, List.set_cons_zero, List.set_cons_succ]
                  refine wpAnyH_take (i := 2) (v := .slice (some ⟨bP, oP, none⟩) P.length cP) rfl (by kernel_rfl) (by kernel_rfl) (by kernel_rfl) (fun _ _ _ h => h) (Or.inl ⟨by rfl, by intro wx hx; go_simp⟩) (by assumption) ?_
                  try simp only [List.getElem_toArray, List.getElem_cons_succ, List.getElem_cons_zero, Act.put, List.setIfInBounds_toArray, List.set_cons_zero, List.set_cons_succ]
                  refine wpAnyH_take (i := 3) (v := .int .i64 i) rfl (by kernel_rfl) (by kernel_rfl) (by kernel_rfl) (fun _ _ _ h => h) (Or.inl ⟨by rfl, by intro wx hx; go_simp⟩) (by assumption) ?_
                  try simp only [List.getElem_toArray, List.getElem_cons_succ, List.getElem_cons_zero, Act.put, List.setIfInBounds_toArray, List.set_cons_zero, List.set_cons_succ]
                  refine wpAnyH_take (i := 4) (v := .pointer (some ⟨bP, oP + i, none⟩)) rfl (by kernel_rfl) (by kernel_rfl) (by kernel_rfl) (fun _ _ _ h => h) (Or.inl ⟨by rfl, by intro wx hx; go_simp⟩) (by assumption) ?_
                  try simp only [List.getElem_toArray, List.getElem_cons_succ, List.getElem_cons_zero, Act.put, List.setIfInBounds_toArray, List.set_cons_zero, List.set_cons_succ]
                  refine wpAnyH_take (i := 5) (v := .slice (some ⟨bx1, ox1, none⟩) x.length m1) rfl (by kernel_rfl) (by kernel_rfl) (by kernel_rfl) (fun _ _ _ h => h) (Or.inl ⟨by rfl, by intro wx hx; obtain ⟨_, _⟩ := hx; go_simp⟩) (by assumption) ?_
                  try simp only [List.getElem_toArray, List.getElem_cons_succ, List.getElem_cons_zero, Act.put, List.setIfInBounds_toArray, List.set_cons_zero, List.set_cons_succ]
                  refine wpAnyH_take (i := 6) (v := .slice (some ⟨bP, oP, none⟩) P.length cP) rfl (by kernel_rfl) (by kernel_rfl) (by kernel_rfl) (fun _ _ _ h => h) (Or.inl ⟨by rfl, by intro wx hx; go_simp⟩) (by assumption) ?_
                  try simp only [List.getElem_toArray, List.getElem_cons_succ, List.getElem_cons_zero, Act.put, List.setIfInBounds_toArray, List.set_cons_zero, List.set_cons_succ]
                  refine wpAnyH_take (i := 7) (v := .int .i64 j) rfl (by kernel_rfl) (by kernel_rfl) (by kernel_rfl) (fun _ _ _ h => h) (Or.inl ⟨by rfl, by intro wx hx; go_simp⟩) (by assumption) ?_
                  try simp only [List.getElem_toArray, List.getElem_cons_succ, List.getElem_cons_zero, Act.put, List.setIfInBounds_toArray, List.set_cons_zero, List.set_cons_succ]
                  refine wpAnyH_take (i := 8) (v := .pointer (some ⟨bP, oP + j, none⟩)) rfl (by kernel_rfl) (by kernel_rfl) (by kernel_rfl) (fun _ _ _ h => h) (Or.inl ⟨by rfl, by intro wx hx; go_simp⟩) (by assumption) ?_
                  try simp only [List.getElem_toArray, List.getElem_cons_succ, List.getElem_cons_zero, Act.put, List.setIfInBounds_toArray, List.set_cons_zero, List.set_cons_succ]
                  refine wpAnyH_take (i := 9) (v := .slice d2 y.length m2) rfl (by kernel_rfl) (by kernel_rfl) (by kernel_rfl) (fun _ _ _ h => h) (Or.inl ⟨by rfl, by intro wx hx; obtain ⟨_, _⟩ := hx; go_simp⟩) (by assumption) ?_
                  try simp only [List.getElem_toArray, List.getElem_cons_succ, List.getElem_cons_zero, Act.put, List.setIfInBounds_toArray, List.set_cons_zero, List.set_cons_succ]
                  refine wpAnyH_take (i := 10) (v := .int .i64 s) rfl (by kernel_rfl) (by kernel_rfl) (by kernel_rfl) (fun _ _ _ h => h) (Or.inl ⟨by rfl, by intro wx hx; go_simp⟩) (by assumption) ?_
                  try simp only [List.getElem_toArray, List.getElem_cons_succ, List.getElem_cons_zero, Act.put, List.setIfInBounds_toArray, List.set_cons_zero, List.set_cons_succ]
                  refine wpAnyH_ready (rs := [11]) (by kernel_rfl) (by simp) ?_
                  refine AllReadyH.cons rfl (fun K hK => ?_) AllReadyH.nil
                  go_simp
                  go_at_call 116
                  refine (l7Exchanges_any (n := M.length) (k := kn) (w0 := wP) (by rw [← hPd.out]; exact hP') (hw'.ext (e := e0P)) hi1 hi2 hMl.2 hkn hxc.out hyc.out hlts hlwc.out hwbc.out).mono ?_
                  rw [hok.out]
                  rintro e w5 ⟨rfl, e5⟩
                  have e5q : Ext wq w5 := Ext.trans ed e5
                  have hS5 := hSx.out w5 e5q
                  go_wp2_with fail
                  refine hK.out _ _ hS5 (fun _ => ?_)
                  clear hK K
                  try simp only [List.getElem_toArray, List.getElem_cons_succ, List.getElem_cons_zero, Act.put, List.setIfInBounds_toArray, List.set_cons_zero, List.set_cons_succ]
                  refine wpAnyH_take (i := 12) (v := .bool true) rfl (by kernel_rfl) (by kernel_rfl) (by kernel_rfl) (fun _ _ _ h => h) (Or.inl ⟨by rfl, by intro wx hx; go_simp⟩) (by assumption) ?_
                  try simp only [List.getElem_toArray, List.getElem_cons_succ, List.getElem_cons_zero, Act.put, List.setIfInBounds_toArray, List.set_cons_zero, List.set_cons_succ]
                  refine wpAnyH_done (by kernel_rfl) ?_ _
                  have ePw5 : Ext wP w5 := Ext.trans eq e5q
                  have e05 : Ext w0 w5 := Ext.trans e0q e5q
                  have hSy := hid (show ∀ u, Ext w5 u → u.cell? ⟨bP, oP + i, none⟩ = some (.slice (some ⟨bx1, ox1, none⟩) x.length m1) ∧ u.cell? ⟨bP, oP + j, none⟩ = some (.slice d2 y.length m2) ∧ u.cell? ⟨bx1, ox1 + s, none⟩ = some (.int .i64 xs) from fun u e => ⟨(Ext.trans ePw5 e).cell hc1, (Ext.trans ePw5 e).cell hc2, (Ext.trans ePw5 e).cell hcs⟩)
                  go_wp2_with fail
                  refine region_held_from (w0 := w5) (S := fun u => u.cell? ⟨bP, oP + i, none⟩ = some (.slice (some ⟨bx1, ox1, none⟩) x.length m1) ∧ u.cell? ⟨bP, oP + j, none⟩ = some (.slice d2 y.length m2) ∧ u.cell? ⟨bx1, ox1 + s, none⟩ = some (.int .i64 xs)) (by kernel_rfl) hSy.out (fun we ee hHeld1 => ?_)
                  have e0e : Ext w0 we := Ext.trans e05 ee
                  refine wpAnyH_take (i := 0) (v := .slice (some ⟨bP, oP, none⟩) P.length cP) rfl (by kernel_rfl) (by kernel_rfl) (by kernel_rfl) (fun _ _ _ h => h) (Or.inl ⟨by rfl, by intro wx hx; go_simp⟩) (by assumption) ?_
                  try simp only [List.getElem_toArray, List.getElem_cons_zero, Act.put, List.setIfInBounds_toArray, List.set_cons_zero, List.set_cons_succ]
                  refine wpAnyH_take (i := 1) (v := .int .i64 i) rfl (by kernel_rfl) (by kernel_rfl) (by kernel_rfl) (fun _ _ _ h => h) (Or.inl ⟨by rfl, by intro wx hx; go_simp⟩) (by assumption) ?_
                  try simp only [List.getElem_toArray, List.getElem_cons_succ, List.getElem_cons_zero, Act.put, List.setIfInBounds_toArray, List.set_cons_zero, List.set_cons_succ]
                  refine wpAnyH_take (i := 2) (v := .pointer (some ⟨bP, oP + i, none⟩)) rfl (by kernel_rfl) (by kernel_rfl) (by kernel_rfl) (fun _ _ _ h => h) (Or.inl ⟨by rfl, by intro wx hx; go_simp⟩) (by assumption) ?_
                  try simp only [List.getElem_toArray, List.getElem_cons_succ, List.getElem_cons_zero, Act.put, List.setIfInBounds_toArray, List.set_cons_zero, List.set_cons_succ]
                  refine wpAnyH_take (i := 3) (v := .slice (some ⟨bx1, ox1, none⟩) x.length m1) rfl (by kernel_rfl) (by kernel_rfl) (by kernel_rfl) (fun _ _ _ h => h) (Or.inl ⟨by rfl, by intro wx hx; obtain ⟨_, _, _⟩ := hx; go_simp⟩) (by assumption) ?_
                  try simp only [List.getElem_toArray, List.getElem_cons_succ, List.getElem_cons_zero, Act.put, List.setIfInBounds_toArray, List.set_cons_zero, List.set_cons_succ]
                  refine wpAnyH_take (i := 4) (v := .slice (some ⟨bP, oP, none⟩) P.length cP) rfl (by kernel_rfl) (by kernel_rfl) (by kernel_rfl) (fun _ _ _ h => h) (Or.inl ⟨by rfl, by intro wx hx; go_simp⟩) (by assumption) ?_
                  try simp only [List.getElem_toArray, List.getElem_cons_succ, List.getElem_cons_zero, Act.put, List.setIfInBounds_toArray, List.set_cons_zero, List.set_cons_succ]
                  refine wpAnyH_take (i := 5) (v := .int .i64 j) rfl (by kernel_rfl) (by kernel_rfl) (by kernel_rfl) (fun _ _ _ h => h) (Or.inl ⟨by rfl, by intro wx hx; go_simp⟩) (by assumption) ?_
                  try simp only [List.getElem_toArray, List.getElem_cons_succ, List.getElem_cons_zero, Act.put, List.setIfInBounds_toArray, List.set_cons_zero, List.set_cons_succ]
                  refine wpAnyH_take (i := 6) (v := .pointer (some ⟨bP, oP + j, none⟩)) rfl (by kernel_rfl) (by kernel_rfl) (by kernel_rfl) (fun _ _ _ h => h) (Or.inl ⟨by rfl, by intro wx hx; go_simp⟩) (by assumption) ?_
                  try simp only [List.getElem_toArray, List.getElem_cons_succ, List.getElem_cons_zero, Act.put, List.setIfInBounds_toArray, List.set_cons_zero, List.set_cons_succ]
                  refine wpAnyH_take (i := 7) (v := .slice d2 y.length m2) rfl (by kernel_rfl) (by kernel_rfl) (by kernel_rfl) (fun _ _ _ h => h) (Or.inl ⟨by rfl, by intro wx hx; obtain ⟨_, _, _⟩ := hx; go_simp⟩) (by assumption) ?_
                  try simp only [List.getElem_toArray, List.getElem_cons_succ, List.getElem_cons_zero, Act.put, List.setIfInBounds_toArray, List.set_cons_zero, List.set_cons_succ]
                  refine wpAnyH_take (i := 9) (v := .slice (some ⟨bP, oP, none⟩) P.length cP) rfl (by kernel_rfl) (by kernel_rfl) (by kernel_rfl) (fun _ _ _ h => h) (Or.inl ⟨by rfl, by intro wx hx; go_simp⟩) (by assumption) ?_
                  try simp only [List.getElem_toArray, List.getElem_cons_succ, List.getElem_cons_zero, Act.put, List.setIfInBounds_toArray, List.set_cons_zero, List.set_cons_succ]
                  refine wpAnyH_take (i := 10) (v := .int .i64 i) rfl (by kernel_rfl) (by kernel_rfl) (by kernel_rfl) (fun _ _ _ h => h) (Or.inl ⟨by rfl, by intro wx hx; go_simp⟩) (by assumption) ?_
                  try simp only [List.getElem_toArray, List.getElem_cons_succ, List.getElem_cons_zero, Act.put, List.setIfInBounds_toArray, List.set_cons_zero, List.set_cons_succ]
                  refine wpAnyH_take (i := 11) (v := .pointer (some ⟨bP, oP + i, none⟩)) rfl (by kernel_rfl) (by kernel_rfl) (by kernel_rfl) (fun _ _ _ h => h) (Or.inl ⟨by rfl, by intro wx hx; go_simp⟩) (by assumption) ?_
                  try simp only [List.getElem_toArray, List.getElem_cons_succ, List.getElem_cons_zero, Act.put, List.setIfInBounds_toArray, List.set_cons_zero, List.set_cons_succ]
                  refine wpAnyH_take (i := 12) (v := .slice (some ⟨bx1, ox1, none⟩) x.length m1) rfl (by kernel_rfl) (by kernel_rfl) (by kernel_rfl) (fun _ _ _ h => h) (Or.inl ⟨by rfl, by intro wx hx; obtain ⟨_, _, _⟩ := hx; go_simp⟩) (by assumption) ?_
                  try simp only [List.getElem_toArray, List.getElem_cons_succ, List.getElem_cons_zero, Act.put, List.setIfInBounds_toArray, List.set_cons_zero, List.set_cons_succ]
                  refine wpAnyH_take (i := 13) (v := .int .i64 s) rfl (by kernel_rfl) (by kernel_rfl) (by kernel_rfl) (fun _ _ _ h => h) (Or.inl ⟨by rfl, by intro wx hx; go_simp⟩) (by assumption) ?_
                  try simp only [List.getElem_toArray, List.getElem_cons_succ, List.getElem_cons_zero, Act.put, List.setIfInBounds_toArray, List.set_cons_zero, List.set_cons_succ]
                  refine wpAnyH_take (i := 14) (v := .pointer (some ⟨bx1, ox1 + s, none⟩)) rfl (by kernel_rfl) (by kernel_rfl) (by kernel_rfl) (fun _ _ _ h => h) (Or.inl ⟨by rfl, by intro wx hx; go_simp⟩) (by assumption) ?_
                  try simp only [List.getElem_toArray, List.getElem_cons_succ, List.getElem_cons_zero, Act.put, List.setIfInBounds_toArray, List.set_cons_zero, List.set_cons_succ]
                  refine wpAnyH_take (i := 15) (v := .int .i64 xs) rfl (by kernel_rfl) (by kernel_rfl) (by kernel_rfl) (fun _ _ _ h => h) (Or.inl ⟨by rfl, by intro wx hx; obtain ⟨_, _, _⟩ := hx; go_simp⟩) (by assumption) ?_
                  try simp only [List.getElem_toArray, List.getElem_cons_succ, List.getElem_cons_zero, Act.put, List.setIfInBounds_toArray, List.set_cons_zero, List.set_cons_succ]
                  refine wpAnyH_ready (rs := [8]) (by kernel_rfl) (by simp) ?_
                  refine AllReadyH.cons rfl (fun K hK => ?_) AllReadyH.nil
                  go_simp
                  go_at_call 102
                  refine (l1Own_any (w0 := we) (w := we) (hi2.ext (e := Ext.trans ePw5 ee))).mono ?_
                  rintro e w6 ⟨d6, m6, rfl, own6, e6⟩
                  have hS6 := hSy.out w6 (Ext.trans ee e6)
                  go_wp2_with fail
                  refine hK.out _ _ hS6 (fun _ => ?_)
                  clear hK K
                  try simp only [List.getElem_toArray, List.getElem_cons_succ, List.getElem_cons_zero, Act.put, List.setIfInBounds_toArray, List.set_cons_zero, List.set_cons_succ]
                  refine wpAnyH_take (i := 16) (v := .slice (some ⟨bx1, ox1, none⟩) x.length m1) rfl (by kernel_rfl) (by kernel_rfl) (by kernel_rfl) (fun _ _ _ h => h) (Or.inl ⟨by rfl, by intro wx hx; go_simp⟩) (by assumption) ?_
                  try simp only [List.getElem_toArray, List.getElem_cons_succ, List.getElem_cons_zero, Act.put, List.setIfInBounds_toArray, List.set_cons_zero, List.set_cons_succ]
                  refine wpAnyH_take (i := 17) (v := .slice d6 y.length m6) rfl (by kernel_rfl) (by kernel_rfl) (by kernel_rfl) (fun _ _ _ h => h) (Or.inl ⟨by rfl, by intro wx hx; go_simp⟩) (by assumption) ?_
                  try simp only [List.getElem_toArray, List.getElem_cons_succ, List.getElem_cons_zero, Act.put, List.setIfInBounds_toArray, List.set_cons_zero, List.set_cons_succ]
                  refine wpAnyH_take (i := 18) (v := .int .i64 xs) rfl (by kernel_rfl) (by kernel_rfl) (by kernel_rfl) (fun _ _ _ h => h) (Or.inl ⟨by rfl, by intro wx hx; go_simp⟩) (by assumption) ?_
                  try simp only [List.getElem_toArray, List.getElem_cons_succ, List.getElem_cons_zero, Act.put, List.setIfInBounds_toArray, List.set_cons_zero, List.set_cons_succ]
                  refine wpAnyH_take (i := 19) (v := .bool true) rfl (by kernel_rfl) (by kernel_rfl) (by kernel_rfl) (fun _ _ _ h => h) (Or.inl ⟨by rfl, by intro wx hx; go_simp⟩) (by assumption) ?_
                  try simp only [List.getElem_toArray, List.getElem_cons_succ, List.getElem_cons_zero, Act.put, List.setIfInBounds_toArray, List.set_cons_zero, List.set_cons_succ]
                  refine wpAnyH_done (by kernel_rfl) ?_ _
                  go_wp2_with fail
                  (try simp only [Exit.inBlock, Exit.then]); refine bodyPost_ret (results_tmp4 rfl _ _ _) rfl ?_
                  rw [hfin.out.1, hfin.out.2.1, hfin.out.2.2.1, hfin.out.2.2.2]
                  exact ⟨_, _, _, _, rfl, hi1.ext (e := Ext.trans ePw5 (Ext.trans ee e6)), own6.reads (by unfold Short; have := hyl.out.1; omega) hyl.out.2, Ext.trans ePw (Ext.trans ePw5 (Ext.trans ee e6))⟩
              · have hsk : s = kn := by omega
                have hno4 := hid (show ∀ z, z < j + 1 → exS2 P ws kn i z = none from fun z hz => by
                  by_cases e : z = j
                  · rw [e]; exact fst_none fun q hq => hno3.out q (by omega)
                  · exact hno2.out z (by omega))
                replace hsk := hid hsk
                go_wp2_with fail
                go_roundw
                case rel => exact ⟨j + 1, by omega, by go_num, hno4.out, hx3⟩
                case measure => simp [intOf]; omega
          · have hjn : j = P.length := by omega
            have hno4 := hid (show ∀ z, z < i + 1 → exS1 P ws kn z = none from fun z hz => by
              by_cases e : z = i
              · rw [e]; exact fst_none fun q hq => hno2.out q (by omega)
              · exact hno1.out z (by omega))
            replace hjn := hid hjn
            go_wp2_with fail
            go_roundw
            case rel => exact ⟨i + 1, by omega, by go_num, hno4.out, hx2⟩
            case measure => simp [intOf]; omega
      · have hfin := hid (hexn.out (by rw [hO.out]; exact hmiss.out fun q hq => hno1.out q (by omega)))
        go_wp2_with fail
        (try simp only [Exit.inBlock, Exit.then]); refine bodyPost_ret (results_tmp4 rfl _ _ _) rfl ?_
        rw [hfin.out.1, hfin.out.2.1, hfin.out.2.2.1, hfin.out.2.2.2]
        exact ⟨_, _, _, _, rfl, isInts_zero _ _ _, isInts_zero _ _ _, Ext.trans ePw (Ext.trans hx1 inferInstance)⟩
end Go.Proofs.YtmgcfnciejfpbaaGreat
