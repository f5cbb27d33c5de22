/- The draw of a broken exchange. -/
import Derived.Test.YtmgcfnciejfpbaaGreatQMtV
namespace Go.Proofs.YtmgcfnciejfpbaaGreat
open Go.RowKit


set_option maxHeartbeats 6400000 in
set_option maxRecDepth 100000 in
theorem drawEB_any {w0 w : World} [Ext w0 w] {vc : Value} {nb : Nat} (hc : IsBytes w0 vc nb) :
    Calls Tryz.prog 53 #[vc] w (IWPost w) := by
  obtain ⟨ac, cc, rfl⟩ := hc.form
  go_enter Tryz.func53, Tryz.ntmps53
  go_upto_region 2 with fail
  have hsz : w0.heap.size ≤ w.heap.size := (‹Ext w0 w›).size
  have own1 := CurAt.start (vc := .slice ac nb cc) (((Own.nil w w.heap.size).lit 26 1 1 #[.slice none 0 0] (Nat.le_refl _) (by unfold maxLen; omega) rfl)) (by simp)
  have e1 : Ext w ((w.alloc (.cells #[.slice none 0 0] 26)).alloc (.cells #[.slice ac nb cc, .int .i64 0, .int .u64 0] 70)) := inferInstance
  have hcs : (w.alloc (.cells #[.slice none 0 0] 26)).heap.size = w.heap.size + 1 := by simp
  rw [hcs] at own1
  obtain ⟨r, hr⟩ : ∃ r, r = w.heap.size := ⟨_, rfl⟩
  obtain ⟨c, hcd⟩ : ∃ c, c = w.heap.size + 1 := ⟨_, rfl⟩
  obtain ⟨B, hBd⟩ : ∃ B, B = w.heap.size := ⟨_, rfl⟩
  have own1' : CurAt ((w.alloc (.cells #[.slice none 0 0] 26)).alloc (.cells #[.slice ac nb cc, .int .i64 0, .int .u64 0] 70)) B c (.slice ac nb cc) 0 [boxRow 26 1 r [.slice none 0 0]] := by
    rw [hBd, hcd, hr]; exact own1
  have hwB : w0.heap.size ≤ B := by omega
  have b1 : Below B w ((w.alloc (.cells #[.slice none 0 0] 26)).alloc (.cells #[.slice ac nb cc, .int .i64 0, .int .u64 0] 70)) := by rw [hBd]; exact e1.below
  rw [← hcd, ← hr]
  generalize (w.alloc (.cells #[.slice none 0 0] 26)).alloc (.cells #[.slice ac nb cc, .int .i64 0, .int .u64 0] 70) = w1 at *
  replace hr := hid hr
  replace hcd := hid hcd
  replace hBd := hid hBd
  have hE : ∀ u, Below B w u → Ext w0 u := fun u h => ⟨(‹Ext w0 w›).below.trans (h.mono hwB)⟩
  replace hE := hid hE
  clear own1 e1 hcs
  have e1 : Ext w0 w1 := hE.out _ b1
  go_wp2_with fail
  refine (work_any (w0 := w0) hc own1' hwB (by omega) (by omega)).mono ?_
  rintro e w2 ⟨dm, mm, u, M, k, ws, Z, a2, rfl, hM, hk1, hk2, hwl, h1, h2, own2, hZ, b2⟩
  have b2' := b1.trans b2
  clear own1' b1 b2 e1
  have hn7 := hM.1
  replace hM := hid hM
  have own4 := own2.box 26 1 #[.slice dm M.length mm] own2.size rfl
  have b4' : Below B w (w2.alloc (.cells #[.slice dm M.length mm] 26)) := b2'.alloc own2.size _
  obtain ⟨mb, hmb⟩ : ∃ r, r = w2.heap.size := ⟨_, rfl⟩
  go_upto_region 3 with fail
  generalize w2.alloc (.cells #[.slice dm M.length mm] 26) = w4 at *
  rw [← hmb] at own4 ⊢
  replace hmb := hid hmb
  obtain ⟨K1, hK1d⟩ : ∃ z, z = boxRow 26 1 mb [.slice dm M.length mm] :: Z := ⟨_, rfl⟩
  have own4' : CurAt w4 B c (.slice ac nb cc) a2 (K1 ++ [boxRow 26 1 r [.slice none 0 0]]) := by rw [hK1d]; exact own4
  have hK1 := hid (show ∀ u' B', Own u' B' K1 → (IsMet u' (.agg #[.slice dm M.length mm]) M ∧ IsInts u' u ws) ∧ u'.cell? ⟨mb, 0, none⟩ = some (.slice dm M.length mm) ∧ True from fun u' B' o => by
    rw [hK1d] at o
    exact ⟨hZ.out u' B' o.tail, ow_cell (j := 0) o (.head _) (by omega), trivial⟩)
  have hK1z := hid (fun u' B' (o : Own u' B' K1) => (hK1.out u' B' o).1)
  have p4 := (hK1.out _ _ own4'.rows.left).2.1
  have hm4 := (hK1.out _ _ own4'.rows.left).1.1
  clear own2 b2' own4 hK1d
  have e4 : Ext w0 w4 := hE.out _ b4'
  go_wp2_with fail
  with_reducible refine (l6Good_any (w0 := w4) (w := w4) hm4).mono ?_
  rintro e w6 ⟨rfl, e6⟩
  have own6 := own4'.ext (w' := w6)
  have b6 : Below B w w6 := b4'.trans (e6.below.mono own4'.size)
  have p6 := (hK1.out _ _ own6.rows.left).2.1
  clear own4' b4' e6 p4 hm4 e4
  cases hMet : metB M with
  | false =>
    replace hMet := hid hMet
    have hrm : boxRow 26 1 r [.slice none 0 0] ∈ (K1 : List Row) ++ [boxRow 26 1 r [.slice none 0 0]] := List.mem_append_right _ (.head _)
    have r00 : w6.cell? ⟨r, 0, none⟩ = some (.slice none 0 0) := (own6.at hrm (j := 0) (by omega)).1
    have r01 := (own6.at hrm (j := 0) (by omega)).2
    have s1 := CurAt.set (A := K1) (L := []) own6 0 (.slice dm M.length mm)
    have y0 : (w6.setCell ⟨r, 0, none⟩ (.slice dm M.length mm)).cell? ⟨r, 0, none⟩ = some (.slice dm M.length mm) := by go_simp
    have b10 := b6.setCell s1.2 (p := ⟨r, 0, none⟩) (.slice dm M.length mm)
    have hz := s1.1.rows.left
    clear s1 hrm
    go_wp2_with fail
    refine bodyPost_ret (v := .tuple #[.agg #[.slice dm M.length mm], .int .i64 k, u]) (by simp [results, Tryz.results53, go_sem, y0]) rfl ?_
    refine ⟨dm, mm, u, M, k, ws, K1, rfl, hM.out, by omega, by omega, hwl, by rw [← hBd.out]; exact hz, hK1z, ⟨?_⟩⟩
    rw [← hBd.out]
    exact b10
  | true =>
    have hMl := met_len hMet
    have hdst := hid (dst_of_met hMet)
    have h216 := confs_216 (n := M.length) (k := 2) hMl.2 (by omega)
    have hcp := confs_pos (k := 2) hMl.1
    have hrow := hid (confs_rows (n := M.length) (k := 2) (f := 0) hMl.2 (by omega))
    replace hMet := hid hMet
    have e6w : Ext w0 w6 := hE.out _ b6
    go_wp2_with fail
    refine (one_any (w0 := w0) hc own6 hwB (by omega) (by omega)).mono ?_
    rintro e w7 ⟨q, a7, rfl, h71, h72, own7, b7⟩
    have b7' := b6.trans b7
    have p7 := (hK1.out _ _ own7.rows.left).2.1
    clear own6 b6 p6 b7 e6w
    cases q with
    | false =>
      have hrm : boxRow 26 1 r [.slice none 0 0] ∈ (K1 : List Row) ++ [boxRow 26 1 r [.slice none 0 0]] := List.mem_append_right _ (.head _)
      have r00 : w7.cell? ⟨r, 0, none⟩ = some (.slice none 0 0) := (own7.at hrm (j := 0) (by omega)).1
      have r01 := (own7.at hrm (j := 0) (by omega)).2
      have s1 := CurAt.set (A := K1) (L := []) own7 0 (.slice dm M.length mm)
      have y0 : (w7.setCell ⟨r, 0, none⟩ (.slice dm M.length mm)).cell? ⟨r, 0, none⟩ = some (.slice dm M.length mm) := by go_simp
      have b10 := b7'.setCell s1.2 (p := ⟨r, 0, none⟩) (.slice dm M.length mm)
      have hz := s1.1.rows.left
      clear s1 hrm
      go_wp2_with fail
      refine bodyPost_ret (v := .tuple #[.agg #[.slice dm M.length mm], .int .i64 k, u]) (by simp [results, Tryz.results53, go_sem, y0]) rfl ?_
      refine ⟨dm, mm, u, M, k, ws, K1, rfl, hM.out, by omega, by omega, hwl, by rw [← hBd.out]; exact hz, hK1z, ⟨?_⟩⟩
      rw [← hBd.out]
      exact b10
    | true =>
      go_wp2_with fail
      refine (l6ConfigsO_any (n := M.length) (k := 2) hMl.2 (by omega) w7).mono ?_
      rintro e w8 ⟨vP, RP, rfl, tabP, e8⟩
      obtain ⟨gP, cP, rfl⟩ := tabP.place (by omega)
      obtain ⟨vsP, hvP, ownP⟩ := tabP
      obtain ⟨P, hP⟩ : ∃ z, z = confs M.length 2 0 := ⟨_, rfl⟩
      rw [← hP] at h216 hcp hrow hvP ownP ⊢
      have hfd := hid (fun (T : List Nat) (V : List Int) (h1 : 1 ≤ T.length ∧ T.length ≤ 56) (h2 : ∀ t ∈ T, t < (confs M.length 2 0).length) (h3 : V.length = T.length) (h4 : ∀ y ∈ V, 0 ≤ y ∧ y ≤ 8) => fs_draw hMet.out (k := 2) (by omega) h1 h2 h3 h4)
      rw [← hP] at hfd
      have own8 : CurAt w8 B c (.slice ac nb cc) a7 ((rowsOf 27 3 (.slice (some ⟨gP, 0, none⟩) P.length cP) vsP P ++ RP) ++ (K1 ++ [boxRow 26 1 r [.slice none 0 0]])) := own7.join ownP own7.size
      have b8 : Below B w w8 := b7'.trans (e8.below.mono own7.size)
      obtain ⟨K0, hK0d⟩ : ∃ z, z = (rowsOf 27 3 (.slice (some ⟨gP, 0, none⟩) P.length cP) vsP P ++ RP) ++ K1 := ⟨_, rfl⟩
      rw [← List.append_assoc, ← hK0d] at own8
      obtain ⟨pv, hpv⟩ : ∃ f : Nat → Value, f = fun i => vsP.getD i undef := ⟨_, rfl⟩
      have hK0 := hid (show ∀ u' B', Own u' B' K0 → (IsMet u' (.agg #[.slice dm M.length mm]) M ∧ IsInts u' u ws) ∧ u'.cell? ⟨mb, 0, none⟩ = some (.slice dm M.length mm) ∧ ∀ i, i < P.length → u'.cell? ⟨gP, i, none⟩ = some (pv i) ∧ IsInts u' (pv i) (row P i) from fun u' B' o => by
        rw [hK0d] at o
        obtain ⟨h1, h2, _⟩ := hK1.out u' B' o.right
        exact ⟨h1, h2, by rw [hpv]; exact own_tab o.left hvP rfl hrow.out.2.1 hrow.out.2.2⟩)
      clear own7 b7' p7 e8 ownP hvP hK0d hpv hrow
      replace hP := hid hP
      go_upto_region 5 with fail
      have ownd := own8.ext (w' := w8.drew)
      have bd : Below B w w8.drew := b8.drew
      have ed : Ext w0 w8.drew := hE.out _ bd
      refine wp_region_held_drew (S := fun w' => w'.cell? ⟨mb, 0, none⟩ = some (.slice dm M.length mm) ∧ ∀ i, i < P.length → w'.cell? ⟨gP, i, none⟩ = some (pv i)) (by kernel_rfl) ⟨((hK0.out _ _ ownd.rows.left).2).1, fun i hi => ((hK0.out _ _ ownd.rows.left).2.2 i hi).1⟩ (fun hHeld0 => ?_)
      generalize w8.drew = wd at *
      clear own8 b8
      refine wpAnyH_take (i := 0) (v := .agg #[.slice dm M.length mm]) rfl (by kernel_rfl) (by kernel_rfl) (by kernel_rfl) (fun _ _ _ h => h) (Or.inl ⟨by rfl, by intro wx hx; obtain ⟨_, _⟩ := hx; go_simp⟩) (by assumption) ?_
      try simp only [List.getElem_toArray, List.getElem_cons_zero, Act.put, List.setIfInBounds_toArray, List.set_cons_zero, List.set_cons_succ]
      refine wpAnyH_take (i := 1) (v := .slice (some ⟨gP, 0, none⟩) P.length cP) rfl (by kernel_rfl) (by kernel_rfl) (by kernel_rfl) (fun _ _ _ h => h) (Or.inl ⟨by rfl, by intro wx hx; go_simp⟩) (by assumption) ?_
      try simp only [List.getElem_toArray, List.getElem_cons_succ, List.getElem_cons_zero, Act.put, List.setIfInBounds_toArray, List.set_cons_zero, List.set_cons_succ]
      refine wpAnyH_take (i := 2) (v := .pointer (some ⟨c, 0, none⟩)) rfl (by kernel_rfl) (by kernel_rfl) (by kernel_rfl) (fun _ _ _ h => h) (Or.inl ⟨by rfl, by intro wx hx; go_simp⟩) (by assumption) ?_
      try simp only [List.getElem_toArray, List.getElem_cons_succ, List.getElem_cons_zero, Act.put, List.setIfInBounds_toArray, List.set_cons_zero, List.set_cons_succ]
      refine wpAnyH_take (i := 3) (v := .slice (some ⟨gP, 0, none⟩) P.length cP) rfl (by kernel_rfl) (by kernel_rfl) (by kernel_rfl) (fun _ _ _ h => h) (Or.inl ⟨by rfl, by intro wx hx; go_simp⟩) (by assumption) ?_
      try simp only [List.getElem_toArray, List.getElem_cons_succ, List.getElem_cons_zero, Act.put, List.setIfInBounds_toArray, List.set_cons_zero, List.set_cons_succ]
      refine wpAnyH_take (i := 4) (v := .int .i64 P.length) rfl (by kernel_rfl) (by kernel_rfl) (by kernel_rfl) (fun _ _ _ h => h) (Or.inl ⟨by rfl, by intro wx hx; go_simp⟩) (by assumption) ?_
      try simp only [List.getElem_toArray, List.getElem_cons_succ, List.getElem_cons_zero, Act.put, List.setIfInBounds_toArray, List.set_cons_zero, List.set_cons_succ]
      refine wpAnyH_take (i := 8) (v := .slice (some ⟨gP, 0, none⟩) P.length cP) rfl (by kernel_rfl) (by kernel_rfl) (by kernel_rfl) (fun _ _ _ h => h) (Or.inl ⟨by rfl, by intro wx hx; go_simp⟩) (by assumption) ?_
      try simp only [List.getElem_toArray, List.getElem_cons_succ, List.getElem_cons_zero, Act.put, List.setIfInBounds_toArray, List.set_cons_zero, List.set_cons_succ]
      refine wpAnyH_take (i := 9) (v := .pointer (some ⟨c, 0, none⟩)) rfl (by kernel_rfl) (by kernel_rfl) (by kernel_rfl) (fun _ _ _ h => h) (Or.inl ⟨by rfl, by intro wx hx; go_simp⟩) (by assumption) ?_
      try simp only [List.getElem_toArray, List.getElem_cons_succ, List.getElem_cons_zero, Act.put, List.setIfInBounds_toArray, List.set_cons_zero, List.set_cons_succ]
      refine wpAnyH_take (i := 10) (v := .slice (some ⟨gP, 0, none⟩) P.length cP) rfl (by kernel_rfl) (by kernel_rfl) (by kernel_rfl) (fun _ _ _ h => h) (Or.inl ⟨by rfl, by intro wx hx; go_simp⟩) (by assumption) ?_
      try simp only [List.getElem_toArray, List.getElem_cons_succ, List.getElem_cons_zero, Act.put, List.setIfInBounds_toArray, List.set_cons_zero, List.set_cons_succ]
      refine wpAnyH_take (i := 11) (v := .int .i64 P.length) rfl (by kernel_rfl) (by kernel_rfl) (by kernel_rfl) (fun _ _ _ h => h) (Or.inl ⟨by rfl, by intro wx hx; go_simp⟩) (by assumption) ?_
      try simp only [List.getElem_toArray, List.getElem_cons_succ, List.getElem_cons_zero, Act.put, List.setIfInBounds_toArray, List.set_cons_zero, List.set_cons_succ]
      refine wpAnyH_take (i := 16) (v := .pointer (some ⟨c, 0, none⟩)) rfl (by kernel_rfl) (by kernel_rfl) (by kernel_rfl) (fun _ _ _ h => h) (Or.inl ⟨by rfl, by intro wx hx; go_simp⟩) (by assumption) ?_
      try simp only [List.getElem_toArray, List.getElem_cons_succ, List.getElem_cons_zero, Act.put, List.setIfInBounds_toArray, List.set_cons_zero, List.set_cons_succ]
      refine wpAnyH_ready (rs := [5]) (by kernel_rfl) (by simp) ?_
      refine AllReadyH.cons rfl (fun K hK => ?_) AllReadyH.nil
      go_simp
      go_at_call 98
      refine (pick_any (w0 := w0) hc ownd hwB (by omega) (by omega)).mono ?_
      rintro e w10 ⟨x1, a10, rfl, h100, h101, h102, h103, h104, own10, b10⟩
      have b10' := bd.trans b10
      have hx10 := h102 (by omega)
      obtain ⟨t1, rfl⟩ := Int.eq_ofNat_of_zero_le h100
      have ht1 : t1 < P.length := by omega
      obtain ⟨pd1, pm1, hv1, _⟩ := ((hK0.out _ _ own10.rows.left).2.2 t1 ht1).2.form
      obtain ⟨pl1, hpl1⟩ : ∃ y, y = (row P t1).length := ⟨_, rfl⟩
      rw [← hpl1] at hv1
      replace hv1 := hid hv1
      clear hpl1
      have hSw10 := hid (show w10.cell? ⟨mb, 0, none⟩ = some (.slice dm M.length mm) ∧ ∀ i, i < P.length → w10.cell? ⟨gP, i, none⟩ = some (pv i) from ⟨(hK0.out _ _ own10.rows.left).2.1, fun i hi => ((hK0.out _ _ own10.rows.left).2.2 i hi).1⟩)
      have e10 : Ext w0 w10 := hE.out _ b10'
      clear ownd bd ed b10 h100 h101 h102 hHeld0 hx10
      go_wp2_with fail
      refine hK.out _ _ hSw10.out (fun _ => ?_)
      clear hK K
      try simp only [List.getElem_toArray, List.getElem_cons_succ, List.getElem_cons_zero, Act.put, List.setIfInBounds_toArray, List.set_cons_zero, List.set_cons_succ]
      refine wpAnyH_take (i := 6) (v := .pointer (some ⟨gP, t1, none⟩)) rfl (by kernel_rfl) (by kernel_rfl) (by kernel_rfl) (fun _ _ _ h => h) (Or.inl ⟨by rfl, by intro wx hx; go_simp⟩) (by assumption) ?_
      try simp only [List.getElem_toArray, List.getElem_cons_succ, List.getElem_cons_zero, Act.put, List.setIfInBounds_toArray, List.set_cons_zero, List.set_cons_succ]
      refine wpAnyH_take (i := 7) (v := .slice pd1 pl1 pm1) rfl (by kernel_rfl) (by kernel_rfl) (by kernel_rfl) (fun _ _ _ h => h) (Or.inl ⟨by rfl, by intro wx hx; (obtain ⟨_, hq⟩ := hx; have hq2 := hq t1 ht1; go_simp; exact hv1.out)⟩) (by assumption) ?_
      try simp only [List.getElem_toArray, List.getElem_cons_succ, List.getElem_cons_zero, Act.put, List.setIfInBounds_toArray, List.set_cons_zero, List.set_cons_succ]
      refine wpAnyH_ready (rs := [12]) (by kernel_rfl) (by simp) ?_
      refine AllReadyH.cons rfl (fun K hK => ?_) AllReadyH.nil
      go_simp
      go_at_call 98
      refine (pick_any (w0 := w0) hc own10 hwB (by omega) (by omega)).mono ?_
      rintro e w11 ⟨x2, a11, rfl, h110, h111, h112, h113, h114, own11, b11⟩
      have b11' := b10'.trans b11
      have hx11 := h112 (by omega)
      obtain ⟨t2, rfl⟩ := Int.eq_ofNat_of_zero_le h110
      have ht2 : t2 < P.length := by omega
      obtain ⟨pd2, pm2, hv2, _⟩ := ((hK0.out _ _ own11.rows.left).2.2 t2 ht2).2.form
      obtain ⟨pl2, hpl2⟩ : ∃ y, y = (row P t2).length := ⟨_, rfl⟩
      rw [← hpl2] at hv2
      replace hv2 := hid hv2
      clear hpl2
      have hSw11 := hid (show w11.cell? ⟨mb, 0, none⟩ = some (.slice dm M.length mm) ∧ ∀ i, i < P.length → w11.cell? ⟨gP, i, none⟩ = some (pv i) from ⟨(hK0.out _ _ own11.rows.left).2.1, fun i hi => ((hK0.out _ _ own11.rows.left).2.2 i hi).1⟩)
      have e11 : Ext w0 w11 := hE.out _ b11'
      clear own10 b10' b11 h110 h111 h112 hx11 hSw10 e10
      go_wp2_with fail
      refine hK.out _ _ hSw11.out (fun _ => ?_)
      clear hK K
      try simp only [List.getElem_toArray, List.getElem_cons_succ, List.getElem_cons_zero, Act.put, List.setIfInBounds_toArray, List.set_cons_zero, List.set_cons_succ]
      refine wpAnyH_take (i := 13) (v := .pointer (some ⟨gP, t2, none⟩)) rfl (by kernel_rfl) (by kernel_rfl) (by kernel_rfl) (fun _ _ _ h => h) (Or.inl ⟨by rfl, by intro wx hx; go_simp⟩) (by assumption) ?_
      try simp only [List.getElem_toArray, List.getElem_cons_succ, List.getElem_cons_zero, Act.put, List.setIfInBounds_toArray, List.set_cons_zero, List.set_cons_succ]
      refine wpAnyH_take (i := 14) (v := .slice pd2 pl2 pm2) rfl (by kernel_rfl) (by kernel_rfl) (by kernel_rfl) (fun _ _ _ h => h) (Or.inl ⟨by rfl, by intro wx hx; (obtain ⟨_, hq⟩ := hx; have hq2 := hq t2 ht2; go_simp; exact hv2.out)⟩) (by assumption) ?_
      try simp only [List.getElem_toArray, List.getElem_cons_succ, List.getElem_cons_zero, Act.put, List.setIfInBounds_toArray, List.set_cons_zero, List.set_cons_succ]
      refine wpAnyH_ready (rs := [15, 17]) (by kernel_rfl) (by simp) ?_
      refine AllReadyH.cons rfl (fun K hK => ?_) (AllReadyH.cons rfl (fun K hK => ?_) AllReadyH.nil)
      · skip
        have ownL : CurAt (w11.alloc (.cells #[.slice pd1 pl1 pm1, .slice pd2 pl2 pm2] 27)) B c (.slice ac nb cc) a11 ((⟨27, 1, .slice (some ⟨w11.heap.size, 0, none⟩) 2 2, 2, [.slice pd1 pl1 pm1, .slice pd2 pl2 pm2]⟩ : Row) :: (K0 ++ [boxRow 26 1 r [.slice none 0 0]])) := by
          obtain ⟨s, h⟩ := own11
          exact ⟨s, (h.lit 27 1 2 #[.slice pd1 pl1 pm1, .slice pd2 pl2 pm2] (CurAt.size ⟨s, h⟩) (by unfold maxLen; omega) rfl).perm (List.Perm.swap _ _ _)⟩
        have bL : Below B w (w11.alloc (.cells #[.slice pd1 pl1 pm1, .slice pd2 pl2 pm2] 27)) := b11'.alloc (CurAt.size own11) _
        go_simp
        obtain ⟨gC, hgC⟩ : ∃ z, z = w11.heap.size := ⟨_, rfl⟩
        rw [← hgC] at ownL ⊢
        replace hgC := hid hgC
        generalize w11.alloc (.cells #[.slice pd1 pl1 pm1, .slice pd2 pl2 pm2] 27) = w12 at *
        clear own11 b11' hSw11 e11
        have hSw12 := hid (show w12.cell? ⟨mb, 0, none⟩ = some (.slice dm M.length mm) ∧ ∀ i, i < P.length → w12.cell? ⟨gP, i, none⟩ = some (pv i) from ⟨(hK0.out _ _ ownL.rows.tail.left).2.1, fun i hi => ((hK0.out _ _ ownL.rows.tail.left).2.2 i hi).1⟩)
        have e12 : Ext w0 w12 := hE.out _ bL
        refine hK.out _ _ hSw12.out (fun _ => ?_)
        clear hK K
        try simp only [List.getElem_toArray, List.getElem_cons_succ, List.getElem_cons_zero, Act.put, List.setIfInBounds_toArray, List.set_cons_zero, List.set_cons_succ]
        refine wpAnyH_ready (rs := [17]) (by kernel_rfl) (by simp) ?_
        refine AllReadyH.cons rfl (fun K hK => ?_) AllReadyH.nil
        go_simp
        go_at_call 98
        refine (pick_any (w0 := w0) hc ownL hwB (by omega) (by omega)).mono ?_
        rintro e w13 ⟨x3, a9, rfl, h130, h131, h132, h133, h134, own13, b13⟩
        have b13' := bL.trans b13
        have hx3 := h132 (by omega)
        have hSw13 := hid (show w13.cell? ⟨mb, 0, none⟩ = some (.slice dm M.length mm) ∧ ∀ i, i < P.length → w13.cell? ⟨gP, i, none⟩ = some (pv i) from ⟨(hK0.out _ _ own13.rows.tail.left).2.1, fun i hi => ((hK0.out _ _ own13.rows.tail.left).2.2 i hi).1⟩)
        clear ownL bL b13 h131 h132 hSw12 e12
        go_wp2_with fail
        refine hK.out _ _ hSw13.out (fun _ => ?_)
        clear hK K
        try simp only [List.getElem_toArray, List.getElem_cons_succ, List.getElem_cons_zero, Act.put, List.setIfInBounds_toArray, List.set_cons_zero, List.set_cons_succ]
        have own14 := own13.lit (e := 3) (n := 2) (cs := #[.int .i64 0, .int .i64 x3]) [0, x3] own13.size rfl rfl (by simp)
        have b14 : Below B w (w13.alloc (.cells #[.int .i64 0, .int .i64 x3] 3)) := b13'.alloc own13.size _
        refine wpAnyH_ready (rs := [18]) (by kernel_rfl) (by simp) ?_
        refine AllReadyH.cons rfl (fun K hK => ?_) AllReadyH.nil
        go_simp
        obtain ⟨gV, hgV⟩ : ∃ z, z = w13.heap.size := ⟨_, rfl⟩
        rw [← hgV] at own14 ⊢
        replace hgV := hid hgV
        generalize w13.alloc (.cells #[.int .i64 0, .int .i64 x3] 3) = w9 at *
        clear own13 b13' hSw13
        have hSw9 := hid (show w9.cell? ⟨mb, 0, none⟩ = some (.slice dm M.length mm) ∧ ∀ i, i < P.length → w9.cell? ⟨gP, i, none⟩ = some (pv i) from ⟨(hK0.out _ _ own14.rows.tail.tail.left).2.1, fun i hi => ((hK0.out _ _ own14.rows.tail.tail.left).2.2 i hi).1⟩)
        refine hK.out _ _ hSw9.out (fun _ => ?_)
        clear hK K
        try simp only [List.getElem_toArray, List.getElem_cons_succ, List.getElem_cons_zero, Act.put, List.setIfInBounds_toArray, List.set_cons_zero, List.set_cons_succ]
        clear hSw9
        have b9 := b14
        have own9 : CurAt w9 B c (.slice ac nb cc) a9 ((⟨27, 1, .slice (some ⟨gC, 0, none⟩) 2 2, 2, [.slice pd1 pl1 pm1, .slice pd2 pl2 pm2]⟩ : Row) :: intRowOf 3 (.slice (some ⟨gV, 0, none⟩) 2 2) [0, x3] :: (K0 ++ [boxRow 26 1 r [.slice none 0 0]])) := own14.perm (List.Perm.swap _ _ _)
        clear own14 b14
        have hm9 := (hK0.out _ _ own9.rows.tail.tail.left).1.1
        have hcc := hid (hK0.out _ _ own9.rows.tail.tail.left).2.2
        have hp9 := (hK0.out _ _ own9.rows.tail.tail.left).2.1
        have hVi : IsInts w9 (.slice (some ⟨gV, 0, none⟩) 2 2) [0, x3] := own9.rows.tail.reads (xs := [0, x3]) (by unfold Short; simp) (fun y hy => by simp at hy; unfold I64; omega)
        have hCi : IsRows w9 (.slice (some ⟨gC, 0, none⟩) 2 2) ([t1, t2].map (row P)) := by
          refine Own.readsRows (B := B) (e := 27) (vs := [.slice pd1 pl1 pm1, .slice pd2 pl2 pm2]) (R := intRowOf 3 (.slice (some ⟨gV, 0, none⟩) 2 2) [0, x3] :: (K0 ++ [boxRow 26 1 r [.slice none 0 0]])) own9.rows (by unfold ShortRows; simp) rfl fun j hj => ?_
          match j, hj with
          | 0, _ =>
            show IsInts w9 (.slice pd1 pl1 pm1) (row P t1)
            rw [← hv1.out]
            exact (hcc.out t1 ht1).2
          | 1, _ =>
            show IsInts w9 (.slice pd2 pl2 pm2) (row P t2)
            rw [← hv2.out]
            exact (hcc.out t2 ht2).2
        have hfs := hid (hfd.out [t1, t2] [0, x3] (by simp) (by intro t ht; simp at ht; omega) rfl (by intro y hy; simp at hy; omega))
        refine wpAnyH_ready (rs := [19]) (by kernel_rfl) (by simp) ?_
        refine AllReadyH.cons rfl (fun K hK => ?_) AllReadyH.nil
        go_simp
        go_at_call 114
        with_reducible refine (specFS_any (w0 := w9) (w := w9) hm9 hCi hVi).mono ?_
        rw [hfs.out.1, hfs.out.2.1]
        rintro e w20 ⟨u20, rfl, ow20, e20⟩
        have hws2 : (fsV M ([t1, t2].map (row P)) [0, x3]).length ≤ 300 := by rw [hfs.out.2.2.1]; omega
        have hwsb := hid hfs.out.2.2.2
        have own20 : CurAt w20 B c (.slice ac nb cc) a9 ((intRowOf 3 u20 (fsV M ([t1, t2].map (row P)) [0, x3]) :: K0) ++ [boxRow 26 1 r [.slice none 0 0]]) := (own9.join ow20 own9.size).sub (((List.sublist_cons_self _ _).trans (List.sublist_cons_self _ _)).cons_cons _)
        have b20 : Below B w w20 := b9.trans (e20.below.mono own9.size)
        have hp20 := e20.cell hp9
        have hS20 := hid (show w20.cell? ⟨mb, 0, none⟩ = some (.slice dm M.length mm) ∧ ∀ i, i < P.length → w20.cell? ⟨gP, i, none⟩ = some (pv i) from ⟨hp20, fun i hi => e20.cell (hcc.out i hi).1⟩)
        clear own9 b9 ow20 e20 hm9 hp9 hcc hVi hCi hfs
        generalize fsV M ([t1, t2].map (row P)) [0, x3] = ws2 at *
        go_wp2_with fail
        refine hK.out _ _ hS20.out (fun _ => ?_)
        clear hK K
        try simp only [List.getElem_toArray, List.getElem_cons_succ, List.getElem_cons_zero, Act.put, List.setIfInBounds_toArray, List.set_cons_zero, List.set_cons_succ]
        refine wpAnyH_take (i := 20) (v := .tuple #[u20, .bool true]) rfl (by kernel_rfl) (by kernel_rfl) (by kernel_rfl) (fun _ _ _ h => h) (Or.inl ⟨by rfl, by intro wx hx; go_simp⟩) (by assumption) ?_
        try simp only [List.getElem_toArray, List.getElem_cons_succ, List.getElem_cons_zero, Act.put, List.setIfInBounds_toArray, List.set_cons_zero, List.set_cons_succ]
        refine wpAnyH_take (i := 21) (v := u20) rfl (by kernel_rfl) (by kernel_rfl) (by kernel_rfl) (fun _ _ _ h => h) (Or.inl ⟨by rfl, by intro wx hx; go_simp⟩) (by assumption) ?_
        try simp only [List.getElem_toArray, List.getElem_cons_succ, List.getElem_cons_zero, Act.put, List.setIfInBounds_toArray, List.set_cons_zero, List.set_cons_succ]
        refine wpAnyH_take (i := 22) (v := .bool true) rfl (by kernel_rfl) (by kernel_rfl) (by kernel_rfl) (fun _ _ _ h => h) (Or.inl ⟨by rfl, by intro wx hx; go_simp⟩) (by assumption) ?_
        try simp only [List.getElem_toArray, List.getElem_cons_succ, List.getElem_cons_zero, Act.put, List.setIfInBounds_toArray, List.set_cons_zero, List.set_cons_succ]
        refine wpAnyH_take (i := 23) (v := u20) rfl (by kernel_rfl) (by kernel_rfl) (by kernel_rfl) (fun _ _ _ h => h) (Or.inl ⟨by rfl, by intro wx hx; go_simp⟩) (by assumption) ?_
        try simp only [List.getElem_toArray, List.getElem_cons_succ, List.getElem_cons_zero, Act.put, List.setIfInBounds_toArray, List.set_cons_zero, List.set_cons_succ]
        refine wpAnyH_done (by kernel_rfl) ?_ _
        clear hS20
        have hw9 := hid (show ∀ x ∈ ws2, I64 x from big_i64 fun y hy => by have := hwsb.out y hy; omega)
        have hrm : boxRow 26 1 r [.slice none 0 0] ∈ ((intRowOf 3 u20 ws2 :: K0) : List Row) ++ [boxRow 26 1 r [.slice none 0 0]] := List.mem_append_right _ (.head _)
        have r00 : w20.cell? ⟨r, 0, none⟩ = some (.slice none 0 0) := (own20.at hrm (j := 0) (by omega)).1
        have r01 := (own20.at hrm (j := 0) (by omega)).2
        have s1 := CurAt.set (A := (intRowOf 3 u20 ws2 :: K0)) (L := []) own20 0 (.slice dm M.length mm)
        have y0 : (w20.setCell ⟨r, 0, none⟩ (.slice dm M.length mm)).cell? ⟨r, 0, none⟩ = some (.slice dm M.length mm) := by go_simp
        have b10 := b20.setCell s1.2 (p := ⟨r, 0, none⟩) (.slice dm M.length mm)
        have hz := s1.1.rows.left
        clear s1 hrm
        go_wp2_with fail
        refine bodyPost_ret (v := .tuple #[.agg #[.slice dm M.length mm], .int .i64 2, u20]) (by simp [results, Tryz.results53, go_sem, y0]) rfl ?_
        refine ⟨dm, mm, u20, M, 2, ws2, (intRowOf 3 u20 ws2 :: K0), rfl, hM.out, by omega, by omega, hws2, by rw [← hBd.out]; exact hz, hid (fun u' B' o => ⟨(hK0.out u' B' o.tail).1.1, o.reads (by unfold Short; omega) hw9.out⟩), ⟨?_⟩⟩
        rw [← hBd.out]
        exact b10
      · go_simp
        go_at_call 98
        refine (pick_any (w0 := w0) hc own11 hwB (by omega) (by omega)).mono ?_
        rintro e w12 ⟨x3, a9, rfl, h130, h131, h132, h133, h134, own12, b12⟩
        have b12' := b11'.trans b12
        have hx3 := h132 (by omega)
        have hSw12 := hid (show w12.cell? ⟨mb, 0, none⟩ = some (.slice dm M.length mm) ∧ ∀ i, i < P.length → w12.cell? ⟨gP, i, none⟩ = some (pv i) from ⟨(hK0.out _ _ own12.rows.left).2.1, fun i hi => ((hK0.out _ _ own12.rows.left).2.2 i hi).1⟩)
        clear own11 b11' b12 h131 h132 hSw11 e11
        go_wp2_with fail
        refine hK.out _ _ hSw12.out (fun _ => ?_)
        clear hK K
        try simp only [List.getElem_toArray, List.getElem_cons_succ, List.getElem_cons_zero, Act.put, List.setIfInBounds_toArray, List.set_cons_zero, List.set_cons_succ]
        refine wpAnyH_ready (rs := [15, 18]) (by kernel_rfl) (by simp) ?_
        refine AllReadyH.cons rfl (fun K hK => ?_) (AllReadyH.cons rfl (fun K hK => ?_) AllReadyH.nil)
        · skip
          have ownL : CurAt (w12.alloc (.cells #[.slice pd1 pl1 pm1, .slice pd2 pl2 pm2] 27)) B c (.slice ac nb cc) a9 ((⟨27, 1, .slice (some ⟨w12.heap.size, 0, none⟩) 2 2, 2, [.slice pd1 pl1 pm1, .slice pd2 pl2 pm2]⟩ : Row) :: (K0 ++ [boxRow 26 1 r [.slice none 0 0]])) := by
            obtain ⟨s, h⟩ := own12
            exact ⟨s, (h.lit 27 1 2 #[.slice pd1 pl1 pm1, .slice pd2 pl2 pm2] (CurAt.size ⟨s, h⟩) (by unfold maxLen; omega) rfl).perm (List.Perm.swap _ _ _)⟩
          have bL : Below B w (w12.alloc (.cells #[.slice pd1 pl1 pm1, .slice pd2 pl2 pm2] 27)) := b12'.alloc (CurAt.size own12) _
          go_simp
          obtain ⟨gC, hgC⟩ : ∃ z, z = w12.heap.size := ⟨_, rfl⟩
          rw [← hgC] at ownL ⊢
          replace hgC := hid hgC
          generalize w12.alloc (.cells #[.slice pd1 pl1 pm1, .slice pd2 pl2 pm2] 27) = w13 at *
          clear own12 b12' hSw12
          have hSw13 := hid (show w13.cell? ⟨mb, 0, none⟩ = some (.slice dm M.length mm) ∧ ∀ i, i < P.length → w13.cell? ⟨gP, i, none⟩ = some (pv i) from ⟨(hK0.out _ _ ownL.rows.tail.left).2.1, fun i hi => ((hK0.out _ _ ownL.rows.tail.left).2.2 i hi).1⟩)
          refine hK.out _ _ hSw13.out (fun _ => ?_)
          clear hK K
          try simp only [List.getElem_toArray, List.getElem_cons_succ, List.getElem_cons_zero, Act.put, List.setIfInBounds_toArray, List.set_cons_zero, List.set_cons_succ]
          have own14 := ownL.lit (e := 3) (n := 2) (cs := #[.int .i64 0, .int .i64 x3]) [0, x3] ownL.size rfl rfl (by simp)
          have b14 : Below B w (w13.alloc (.cells #[.int .i64 0, .int .i64 x3] 3)) := bL.alloc ownL.size _
          refine wpAnyH_ready (rs := [18]) (by kernel_rfl) (by simp) ?_
          refine AllReadyH.cons rfl (fun K hK => ?_) AllReadyH.nil
          go_simp
          obtain ⟨gV, hgV⟩ : ∃ z, z = w13.heap.size := ⟨_, rfl⟩
          rw [← hgV] at own14 ⊢
          replace hgV := hid hgV
          generalize w13.alloc (.cells #[.int .i64 0, .int .i64 x3] 3) = w9 at *
          clear ownL bL hSw13
          have hSw9 := hid (show w9.cell? ⟨mb, 0, none⟩ = some (.slice dm M.length mm) ∧ ∀ i, i < P.length → w9.cell? ⟨gP, i, none⟩ = some (pv i) from ⟨(hK0.out _ _ own14.rows.tail.tail.left).2.1, fun i hi => ((hK0.out _ _ own14.rows.tail.tail.left).2.2 i hi).1⟩)
          refine hK.out _ _ hSw9.out (fun _ => ?_)
          clear hK K
          try simp only [List.getElem_toArray, List.getElem_cons_succ, List.getElem_cons_zero, Act.put, List.setIfInBounds_toArray, List.set_cons_zero, List.set_cons_succ]
          clear hSw9
          have b9 := b14
          have own9 : CurAt w9 B c (.slice ac nb cc) a9 ((⟨27, 1, .slice (some ⟨gC, 0, none⟩) 2 2, 2, [.slice pd1 pl1 pm1, .slice pd2 pl2 pm2]⟩ : Row) :: intRowOf 3 (.slice (some ⟨gV, 0, none⟩) 2 2) [0, x3] :: (K0 ++ [boxRow 26 1 r [.slice none 0 0]])) := own14.perm (List.Perm.swap _ _ _)
          clear own14 b14
          have hm9 := (hK0.out _ _ own9.rows.tail.tail.left).1.1
          have hcc := hid (hK0.out _ _ own9.rows.tail.tail.left).2.2
          have hp9 := (hK0.out _ _ own9.rows.tail.tail.left).2.1
          have hVi : IsInts w9 (.slice (some ⟨gV, 0, none⟩) 2 2) [0, x3] := own9.rows.tail.reads (xs := [0, x3]) (by unfold Short; simp) (fun y hy => by simp at hy; unfold I64; omega)
          have hCi : IsRows w9 (.slice (some ⟨gC, 0, none⟩) 2 2) ([t1, t2].map (row P)) := by
            refine Own.readsRows (B := B) (e := 27) (vs := [.slice pd1 pl1 pm1, .slice pd2 pl2 pm2]) (R := intRowOf 3 (.slice (some ⟨gV, 0, none⟩) 2 2) [0, x3] :: (K0 ++ [boxRow 26 1 r [.slice none 0 0]])) own9.rows (by unfold ShortRows; simp) rfl fun j hj => ?_
            match j, hj with
            | 0, _ =>
              show IsInts w9 (.slice pd1 pl1 pm1) (row P t1)
              rw [← hv1.out]
              exact (hcc.out t1 ht1).2
            | 1, _ =>
              show IsInts w9 (.slice pd2 pl2 pm2) (row P t2)
              rw [← hv2.out]
              exact (hcc.out t2 ht2).2
          have hfs := hid (hfd.out [t1, t2] [0, x3] (by simp) (by intro t ht; simp at ht; omega) rfl (by intro y hy; simp at hy; omega))
          refine wpAnyH_ready (rs := [19]) (by kernel_rfl) (by simp) ?_
          refine AllReadyH.cons rfl (fun K hK => ?_) AllReadyH.nil
          go_simp
          go_at_call 114
          with_reducible refine (specFS_any (w0 := w9) (w := w9) hm9 hCi hVi).mono ?_
          rw [hfs.out.1, hfs.out.2.1]
          rintro e w20 ⟨u20, rfl, ow20, e20⟩
          have hws2 : (fsV M ([t1, t2].map (row P)) [0, x3]).length ≤ 300 := by rw [hfs.out.2.2.1]; omega
          have hwsb := hid hfs.out.2.2.2
          have own20 : CurAt w20 B c (.slice ac nb cc) a9 ((intRowOf 3 u20 (fsV M ([t1, t2].map (row P)) [0, x3]) :: K0) ++ [boxRow 26 1 r [.slice none 0 0]]) := (own9.join ow20 own9.size).sub (((List.sublist_cons_self _ _).trans (List.sublist_cons_self _ _)).cons_cons _)
          have b20 : Below B w w20 := b9.trans (e20.below.mono own9.size)
          have hp20 := e20.cell hp9
          have hS20 := hid (show w20.cell? ⟨mb, 0, none⟩ = some (.slice dm M.length mm) ∧ ∀ i, i < P.length → w20.cell? ⟨gP, i, none⟩ = some (pv i) from ⟨hp20, fun i hi => e20.cell (hcc.out i hi).1⟩)
          clear own9 b9 ow20 e20 hm9 hp9 hcc hVi hCi hfs
          generalize fsV M ([t1, t2].map (row P)) [0, x3] = ws2 at *
          go_wp2_with fail
          refine hK.out _ _ hS20.out (fun _ => ?_)
          clear hK K
          try simp only [List.getElem_toArray, List.getElem_cons_succ, List.getElem_cons_zero, Act.put, List.setIfInBounds_toArray, List.set_cons_zero, List.set_cons_succ]
          refine wpAnyH_take (i := 20) (v := .tuple #[u20, .bool true]) rfl (by kernel_rfl) (by kernel_rfl) (by kernel_rfl) (fun _ _ _ h => h) (Or.inl ⟨by rfl, by intro wx hx; go_simp⟩) (by assumption) ?_
          try simp only [List.getElem_toArray, List.getElem_cons_succ, List.getElem_cons_zero, Act.put, List.setIfInBounds_toArray, List.set_cons_zero, List.set_cons_succ]
          refine wpAnyH_take (i := 21) (v := u20) rfl (by kernel_rfl) (by kernel_rfl) (by kernel_rfl) (fun _ _ _ h => h) (Or.inl ⟨by rfl, by intro wx hx; go_simp⟩) (by assumption) ?_
          try simp only [List.getElem_toArray, List.getElem_cons_succ, List.getElem_cons_zero, Act.put, List.setIfInBounds_toArray, List.set_cons_zero, List.set_cons_succ]
          refine wpAnyH_take (i := 22) (v := .bool true) rfl (by kernel_rfl) (by kernel_rfl) (by kernel_rfl) (fun _ _ _ h => h) (Or.inl ⟨by rfl, by intro wx hx; go_simp⟩) (by assumption) ?_
          try simp only [List.getElem_toArray, List.getElem_cons_succ, List.getElem_cons_zero, Act.put, List.setIfInBounds_toArray, List.set_cons_zero, List.set_cons_succ]
          refine wpAnyH_take (i := 23) (v := u20) rfl (by kernel_rfl) (by kernel_rfl) (by kernel_rfl) (fun _ _ _ h => h) (Or.inl ⟨by rfl, by intro wx hx; go_simp⟩) (by assumption) ?_
          try simp only [List.getElem_toArray, List.getElem_cons_succ, List.getElem_cons_zero, Act.put, List.setIfInBounds_toArray, List.set_cons_zero, List.set_cons_succ]
          refine wpAnyH_done (by kernel_rfl) ?_ _
          clear hS20
          have hw9 := hid (show ∀ x ∈ ws2, I64 x from big_i64 fun y hy => by have := hwsb.out y hy; omega)
          have hrm : boxRow 26 1 r [.slice none 0 0] ∈ ((intRowOf 3 u20 ws2 :: K0) : List Row) ++ [boxRow 26 1 r [.slice none 0 0]] := List.mem_append_right _ (.head _)
          have r00 : w20.cell? ⟨r, 0, none⟩ = some (.slice none 0 0) := (own20.at hrm (j := 0) (by omega)).1
          have r01 := (own20.at hrm (j := 0) (by omega)).2
          have s1 := CurAt.set (A := (intRowOf 3 u20 ws2 :: K0)) (L := []) own20 0 (.slice dm M.length mm)
          have y0 : (w20.setCell ⟨r, 0, none⟩ (.slice dm M.length mm)).cell? ⟨r, 0, none⟩ = some (.slice dm M.length mm) := by go_simp
          have b10 := b20.setCell s1.2 (p := ⟨r, 0, none⟩) (.slice dm M.length mm)
          have hz := s1.1.rows.left
          clear s1 hrm
          go_wp2_with fail
          refine bodyPost_ret (v := .tuple #[.agg #[.slice dm M.length mm], .int .i64 2, u20]) (by simp [results, Tryz.results53, go_sem, y0]) rfl ?_
          refine ⟨dm, mm, u20, M, 2, ws2, (intRowOf 3 u20 ws2 :: K0), rfl, hM.out, by omega, by omega, hws2, by rw [← hBd.out]; exact hz, hid (fun u' B' o => ⟨(hK0.out u' B' o.tail).1.1, o.reads (by unfold Short; omega) hw9.out⟩), ⟨?_⟩⟩
          rw [← hBd.out]
          exact b10
        · have own14 := own12.lit (e := 3) (n := 2) (cs := #[.int .i64 0, .int .i64 x3]) [0, x3] own12.size rfl rfl (by simp)
          have b14 : Below B w (w12.alloc (.cells #[.int .i64 0, .int .i64 x3] 3)) := b12'.alloc own12.size _
          go_simp
          obtain ⟨gV, hgV⟩ : ∃ z, z = w12.heap.size := ⟨_, rfl⟩
          rw [← hgV] at own14 ⊢
          replace hgV := hid hgV
          generalize w12.alloc (.cells #[.int .i64 0, .int .i64 x3] 3) = w13 at *
          clear own12 b12' hSw12
          have hSw13 := hid (show w13.cell? ⟨mb, 0, none⟩ = some (.slice dm M.length mm) ∧ ∀ i, i < P.length → w13.cell? ⟨gP, i, none⟩ = some (pv i) from ⟨(hK0.out _ _ own14.rows.tail.left).2.1, fun i hi => ((hK0.out _ _ own14.rows.tail.left).2.2 i hi).1⟩)
          refine hK.out _ _ hSw13.out (fun _ => ?_)
          clear hK K
          try simp only [List.getElem_toArray, List.getElem_cons_succ, List.getElem_cons_zero, Act.put, List.setIfInBounds_toArray, List.set_cons_zero, List.set_cons_succ]
          have ownL : CurAt (w13.alloc (.cells #[.slice pd1 pl1 pm1, .slice pd2 pl2 pm2] 27)) B c (.slice ac nb cc) a9 ((⟨27, 1, .slice (some ⟨w13.heap.size, 0, none⟩) 2 2, 2, [.slice pd1 pl1 pm1, .slice pd2 pl2 pm2]⟩ : Row) :: (intRowOf 3 (.slice (some ⟨gV, 0, none⟩) 2 2) [0, x3] :: (K0 ++ [boxRow 26 1 r [.slice none 0 0]]))) := by
            obtain ⟨s, h⟩ := own14
            exact ⟨s, (h.lit 27 1 2 #[.slice pd1 pl1 pm1, .slice pd2 pl2 pm2] (CurAt.size ⟨s, h⟩) (by unfold maxLen; omega) rfl).perm (List.Perm.swap _ _ _)⟩
          have bL : Below B w (w13.alloc (.cells #[.slice pd1 pl1 pm1, .slice pd2 pl2 pm2] 27)) := b14.alloc (CurAt.size own14) _
          refine wpAnyH_ready (rs := [15]) (by kernel_rfl) (by simp) ?_
          refine AllReadyH.cons rfl (fun K hK => ?_) AllReadyH.nil
          go_simp
          obtain ⟨gC, hgC⟩ : ∃ z, z = w13.heap.size := ⟨_, rfl⟩
          rw [← hgC] at ownL ⊢
          replace hgC := hid hgC
          generalize w13.alloc (.cells #[.slice pd1 pl1 pm1, .slice pd2 pl2 pm2] 27) = w9 at *
          clear own14 b14 hSw13
          have hSw9 := hid (show w9.cell? ⟨mb, 0, none⟩ = some (.slice dm M.length mm) ∧ ∀ i, i < P.length → w9.cell? ⟨gP, i, none⟩ = some (pv i) from ⟨(hK0.out _ _ ownL.rows.tail.tail.left).2.1, fun i hi => ((hK0.out _ _ ownL.rows.tail.tail.left).2.2 i hi).1⟩)
          refine hK.out _ _ hSw9.out (fun _ => ?_)
          clear hK K
          try simp only [List.getElem_toArray, List.getElem_cons_succ, List.getElem_cons_zero, Act.put, List.setIfInBounds_toArray, List.set_cons_zero, List.set_cons_succ]
          clear hSw9
          have b9 := bL
          have own9 := ownL
          clear ownL bL
          have hm9 := (hK0.out _ _ own9.rows.tail.tail.left).1.1
          have hcc := hid (hK0.out _ _ own9.rows.tail.tail.left).2.2
          have hp9 := (hK0.out _ _ own9.rows.tail.tail.left).2.1
          have hVi : IsInts w9 (.slice (some ⟨gV, 0, none⟩) 2 2) [0, x3] := own9.rows.tail.reads (xs := [0, x3]) (by unfold Short; simp) (fun y hy => by simp at hy; unfold I64; omega)
          have hCi : IsRows w9 (.slice (some ⟨gC, 0, none⟩) 2 2) ([t1, t2].map (row P)) := by
            refine Own.readsRows (B := B) (e := 27) (vs := [.slice pd1 pl1 pm1, .slice pd2 pl2 pm2]) (R := intRowOf 3 (.slice (some ⟨gV, 0, none⟩) 2 2) [0, x3] :: (K0 ++ [boxRow 26 1 r [.slice none 0 0]])) own9.rows (by unfold ShortRows; simp) rfl fun j hj => ?_
            match j, hj with
            | 0, _ =>
              show IsInts w9 (.slice pd1 pl1 pm1) (row P t1)
              rw [← hv1.out]
              exact (hcc.out t1 ht1).2
            | 1, _ =>
              show IsInts w9 (.slice pd2 pl2 pm2) (row P t2)
              rw [← hv2.out]
              exact (hcc.out t2 ht2).2
          have hfs := hid (hfd.out [t1, t2] [0, x3] (by simp) (by intro t ht; simp at ht; omega) rfl (by intro y hy; simp at hy; omega))
          refine wpAnyH_ready (rs := [19]) (by kernel_rfl) (by simp) ?_
          refine AllReadyH.cons rfl (fun K hK => ?_) AllReadyH.nil
          go_simp
          go_at_call 114
          with_reducible refine (specFS_any (w0 := w9) (w := w9) hm9 hCi hVi).mono ?_
          rw [hfs.out.1, hfs.out.2.1]
          rintro e w20 ⟨u20, rfl, ow20, e20⟩
          have hws2 : (fsV M ([t1, t2].map (row P)) [0, x3]).length ≤ 300 := by rw [hfs.out.2.2.1]; omega
          have hwsb := hid hfs.out.2.2.2
          have own20 : CurAt w20 B c (.slice ac nb cc) a9 ((intRowOf 3 u20 (fsV M ([t1, t2].map (row P)) [0, x3]) :: K0) ++ [boxRow 26 1 r [.slice none 0 0]]) := (own9.join ow20 own9.size).sub (((List.sublist_cons_self _ _).trans (List.sublist_cons_self _ _)).cons_cons _)
          have b20 : Below B w w20 := b9.trans (e20.below.mono own9.size)
          have hp20 := e20.cell hp9
          have hS20 := hid (show w20.cell? ⟨mb, 0, none⟩ = some (.slice dm M.length mm) ∧ ∀ i, i < P.length → w20.cell? ⟨gP, i, none⟩ = some (pv i) from ⟨hp20, fun i hi => e20.cell (hcc.out i hi).1⟩)
          clear own9 b9 ow20 e20 hm9 hp9 hcc hVi hCi hfs
          generalize fsV M ([t1, t2].map (row P)) [0, x3] = ws2 at *
          go_wp2_with fail
          refine hK.out _ _ hS20.out (fun _ => ?_)
          clear hK K
          try simp only [List.getElem_toArray, List.getElem_cons_succ, List.getElem_cons_zero, Act.put, List.setIfInBounds_toArray, List.set_cons_zero, List.set_cons_succ]
          refine wpAnyH_take (i := 20) (v := .tuple #[u20, .bool true]) rfl (by kernel_rfl) (by kernel_rfl) (by kernel_rfl) (fun _ _ _ h => h) (Or.inl ⟨by rfl, by intro wx hx; go_simp⟩) (by assumption) ?_
          try simp only [List.getElem_toArray, List.getElem_cons_succ, List.getElem_cons_zero, Act.put, List.setIfInBounds_toArray, List.set_cons_zero, List.set_cons_succ]
          refine wpAnyH_take (i := 21) (v := u20) rfl (by kernel_rfl) (by kernel_rfl) (by kernel_rfl) (fun _ _ _ h => h) (Or.inl ⟨by rfl, by intro wx hx; go_simp⟩) (by assumption) ?_
          try simp only [List.getElem_toArray, List.getElem_cons_succ, List.getElem_cons_zero, Act.put, List.setIfInBounds_toArray, List.set_cons_zero, List.set_cons_succ]
          refine wpAnyH_take (i := 22) (v := .bool true) rfl (by kernel_rfl) (by kernel_rfl) (by kernel_rfl) (fun _ _ _ h => h) (Or.inl ⟨by rfl, by intro wx hx; go_simp⟩) (by assumption) ?_
          try simp only [List.getElem_toArray, List.getElem_cons_succ, List.getElem_cons_zero, Act.put, List.setIfInBounds_toArray, List.set_cons_zero, List.set_cons_succ]
          refine wpAnyH_take (i := 23) (v := u20) rfl (by kernel_rfl) (by kernel_rfl) (by kernel_rfl) (fun _ _ _ h => h) (Or.inl ⟨by rfl, by intro wx hx; go_simp⟩) (by assumption) ?_
          try simp only [List.getElem_toArray, List.getElem_cons_succ, List.getElem_cons_zero, Act.put, List.setIfInBounds_toArray, List.set_cons_zero, List.set_cons_succ]
          refine wpAnyH_done (by kernel_rfl) ?_ _
          clear hS20
          have hw9 := hid (show ∀ x ∈ ws2, I64 x from big_i64 fun y hy => by have := hwsb.out y hy; omega)
          have hrm : boxRow 26 1 r [.slice none 0 0] ∈ ((intRowOf 3 u20 ws2 :: K0) : List Row) ++ [boxRow 26 1 r [.slice none 0 0]] := List.mem_append_right _ (.head _)
          have r00 : w20.cell? ⟨r, 0, none⟩ = some (.slice none 0 0) := (own20.at hrm (j := 0) (by omega)).1
          have r01 := (own20.at hrm (j := 0) (by omega)).2
          have s1 := CurAt.set (A := (intRowOf 3 u20 ws2 :: K0)) (L := []) own20 0 (.slice dm M.length mm)
          have y0 : (w20.setCell ⟨r, 0, none⟩ (.slice dm M.length mm)).cell? ⟨r, 0, none⟩ = some (.slice dm M.length mm) := by go_simp
          have b10 := b20.setCell s1.2 (p := ⟨r, 0, none⟩) (.slice dm M.length mm)
          have hz := s1.1.rows.left
          clear s1 hrm
          go_wp2_with fail
          refine bodyPost_ret (v := .tuple #[.agg #[.slice dm M.length mm], .int .i64 2, u20]) (by simp [results, Tryz.results53, go_sem, y0]) rfl ?_
          refine ⟨dm, mm, u20, M, 2, ws2, (intRowOf 3 u20 ws2 :: K0), rfl, hM.out, by omega, by omega, hws2, by rw [← hBd.out]; exact hz, hid (fun u' B' o => ⟨(hK0.out u' B' o.tail).1.1, o.reads (by unfold Short; omega) hw9.out⟩), ⟨?_⟩⟩
          rw [← hBd.out]
          exact b10
end Go.Proofs.YtmgcfnciejfpbaaGreat
