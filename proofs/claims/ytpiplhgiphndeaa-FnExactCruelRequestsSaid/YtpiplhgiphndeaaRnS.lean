/- The run of the work function algorithm, the reference's. -/
import Derived.Test.YtpiplhgiphndeaaRunP
namespace Go.Proofs.Ytpiplhgiphndeaa
open Go.RowKit

theorem perm_c {α : Type} (x n t v : α) (Z : List α) : (t :: x :: (Z ++ [n, v])).Perm (x :: n :: t :: (Z ++ [v])) := by
  classical
  refine List.perm_iff_count.2 fun y => ?_
  simp only [List.count_append, List.count_cons, List.count_nil]
  omega
theorem rows_in0 {w : World} {B e1 e2 : Nat} {v rv : Value} {vs : List Value} {M : List (List Int)} {xs : List Int} {R : List Row} (h : Own w B (⟨e1, 1, v, vs.length + 1, vs ++ [rv]⟩ :: (intRowOf e2 rv xs :: (List.zipWith (intRowOf e2) vs M ++ R)))) (hl : vs.length = M.length) :
    Own w B (valRowOf e1 v (vs ++ [rv]) :: (List.zipWith (intRowOf e2) (vs ++ [rv]) (M ++ [xs]) ++ R)) := by
  have e : (valRowOf e1 v (vs ++ [rv]) :: (List.zipWith (intRowOf e2) (vs ++ [rv]) (M ++ [xs]) ++ R)) = (⟨e1, 1, v, vs.length + 1, vs ++ [rv]⟩ : Row) :: (List.zipWith (intRowOf e2) vs M ++ (intRowOf e2 rv xs :: R)) := by
    unfold valRowOf
    rw [List.zipWith_append hl, List.length_append]
    simp
  rw [e]
  exact h.perm (List.Perm.cons _ List.perm_middle)
theorem own_at {w : World} {B e1 e2 : Nat} {ov : Value} {vs : List Value} {L : List (List Int)} {R : List Row} (h : Own w B (valRowOf e1 ov vs :: (List.zipWith (intRowOf e2) vs L ++ R))) (hl : vs.length = L.length) {j : Nat} (hj : j < L.length) (hs : Short (row L j).length) (hi : ∀ x ∈ row L j, I64 x) : IsInts w (vs.getD j undef) (row L j) := by
  have h1 : (List.zipWith (intRowOf e2) vs L ++ R)[j]? = some (intRowOf e2 (vs.getD j undef) (row L j)) := by
    have hj' : j < vs.length := by omega
    rw [List.getElem?_append_left (by simp; omega)]
    simp [List.getElem?_zipWith, hj', row, hj]
  exact (h.tail.pick h1).reads hs hi

set_option maxHeartbeats 1600000 in
set_option maxRecDepth 100000 in
theorem l7Start_any {v va : Value} {M : List (List Int)} {a : List Int} {k : Nat} {w0 w : World} [Ext w0 w] (hm : IsMet w0 v M) (hM : metB M = true) (ha : IsInts w0 va a) (hk : k ≤ 3) (hac : a ∈ confs M.length k 0) :
    Calls Try.prog 60 #[v, .int .i64 k, va] w fun e w' => ∃ u, e = .returned u ∧ Own w' w.heap.size [intRowOf 3 u (wst M (confs M.length k 0) a)] ∧ Ext w w' := by
  have hm' := hm
  obtain ⟨v1, rfl, hR⟩ := hm
  obtain ⟨a1, c1, rfl, l1⟩ := hR.form
  have ha' := ha
  obtain ⟨da, ma, rfl, la⟩ := ha.form
  have hMl := met_len hM
  have hdst := hid (dst_of_met hM)
  have hM' := hid hM
  clear hM
  obtain ⟨hak, _, hap0⟩ := confs_iff.1 hac
  have hap : Pts M.length a := fun x hx => by have := hap0 x hx; omega
  clear hap0
  have hgood := hid (start_good hdst.out hk hac)
  replace hac := hid hac
  replace hak := hid hak
  have hPm := hid (show ∀ i, i < (confs M.length k 0).length → (row (confs M.length k 0) i).length = k ∧ Pts M.length (row (confs M.length k 0) i) from fun i hi => by
    obtain ⟨h1, h2, _⟩ := row_conf hi
    exact ⟨h1, h2⟩)
  have h216 := confs_216 hMl.2 hk
  go_enter Try.func60, Try.ntmps60
  go_wp2_with fail
  refine (l6Configs_any (n := M.length) hMl.2 hk _).mono ?_
  rintro e wP ⟨vP, rfl, hP, eP⟩
  have x0 : wP.cell? ⟨w.heap.size, 0, none⟩ = some (.slice a1 M.length c1) := eP.cell (by go_simp)
  have ePw : Ext w wP := Ext.trans inferInstance eP
  have e0P : Ext w0 wP := Ext.trans ‹Ext w0 w› ePw
  clear eP
  obtain ⟨bx, hbx⟩ : ∃ q, q = w.heap.size := ⟨_, rfl⟩
  rw [← hbx] at x0 ⊢
  have hBw := hid (show w.heap.size ≤ wP.heap.size from ePw.size)
  replace hbx := hid hbx
  obtain ⟨P, hPd⟩ : ∃ p, p = confs M.length k 0 := ⟨_, rfl⟩
  rw [← hPd] at hP hPm hgood h216
  replace hPd := hid hPd
  obtain ⟨aP, cP, rfl, lP⟩ := hP.form
  obtain ⟨Xs, hXs⟩ : ∃ x, x = P.map fun b => mvC M a b := ⟨_, rfl⟩
  have hXl := hid (show Xs.length = P.length by rw [hXs, List.length_map])
  have hXn := hid (show ∀ i, i < P.length → nth Xs i = mvC M a (row P i) from fun i hi => by rw [hXs]; simp [nth, row, hi])
  rw [← hXs] at hgood
  replace hXs := hid hXs
  obtain ⟨B, hB⟩ : ∃ b, b = wP.heap.size := ⟨_, rfl⟩
  have own0 : Own (wP.alloc (.cells #[] 3)) B [intRowOf 3 (.slice (some ⟨wP.heap.size, 0, none⟩) ([] : List Int).length 0) []] := by
    rw [hB]
    exact Own.litInts (Nat.le_refl _) rfl rfl (by simp) rfl
  have b0 : Below B wP (wP.alloc (.cells #[] 3)) := by rw [hB]; exact (Below.refl _ _).alloc (Nat.le_refl _) _
  have hEx := hid (show ∀ u, Below B wP u → Ext wP u from fun u h => ⟨by rw [← hB]; exact h⟩)
  rw [← hB] at hBw
  replace hB := hid hB
  go_wp2_with fail
  go_loopw [8, 9] (fun ov i wr => ∃ j : Nat, j ≤ P.length ∧ i = .int .i64 j ∧ Own wr B [intRowOf 3 ov (Xs.take j)] ∧ Below B wP wr) (fun _ i _ => P.length - (intOf i).toNat)
  case atStart => exact ⟨0, by omega, rfl, own0, b0⟩
  case round =>
    obtain ⟨j, hj, rfl, hown, hb⟩ := hrel
    obtain ⟨wq, rfl⟩ : ∃ y : World, y = wr := ⟨_, rfl⟩
    obtain ⟨d0, n0, m0, rfl, hn0⟩ := own_formN hown
    clear own0 b0
    have eq : Ext wP wq := hEx.out _ hb
    have e0q : Ext w0 wq := Ext.trans e0P eq
    have hBq : B ≤ wq.heap.size := by rw [hB.out]; exact eq.size
    by_cases hlt : j < P.length
    · obtain ⟨bP, oP, dr, mr, hdP, hc1, hi1, _⟩ := hP.at (w' := wP) hlt
      cases hdP
      obtain ⟨hcl, hcp⟩ := hPm.out j hlt
      have hXj := hid (show Xs.take (j + 1) = Xs.take j ++ [mvC M a (row P j)] by rw [take_succ_nth (by rw [hXl.out]; exact hlt), hXn.out j hlt])
      have hT : (Xs.take j).length ≤ 1000 := by rw [List.length_take]; omega
      have hn1000 : n0 ≤ 1000 := by rw [hn0.out]; exact hT
      obtain ⟨T, hTd⟩ : ∃ l, l = Xs.take j := ⟨_, rfl⟩
      rw [← hTd] at hown hn0 hXj hT
      replace hTd := hid hTd
      have hown' : Own wq B [⟨3, 1, .slice d0 n0 m0, n0, T.map (Value.int .i64)⟩] := by rw [hn0.out]; rw [hn0.out] at hown; exact hown
      clear hown
      obtain ⟨c, hc⟩ : ∃ y, y = row P j := ⟨_, rfl⟩
      rw [← hc] at hc1 hi1 hcl hcp hXj
      replace hc := hid hc
      replace hcl := hid hcl
      replace hcp := hid hcp
      have hSb := hid (show ∀ u, Below B wP u → u.cell? ⟨bx, 0, none⟩ = some (.slice a1 M.length c1) ∧ u.cell? ⟨bP, oP + j, none⟩ = some (.slice dr c.length mr) from fun u h => ⟨(hEx.out _ h).cell x0, (hEx.out _ h).cell hc1⟩)
      have hSx := hid (show ∀ u, Ext wq u → u.cell? ⟨bx, 0, none⟩ = some (.slice a1 M.length c1) ∧ u.cell? ⟨bP, oP + j, none⟩ = some (.slice dr c.length mr) from fun u e => ⟨(Ext.trans eq e).cell x0, (Ext.trans eq e).cell hc1⟩)
      clear hc1
      go_wp2_with fail
      refine region_held_from (w0 := wq) (S := fun u => u.cell? ⟨bx, 0, none⟩ = some (.slice a1 M.length c1) ∧ u.cell? ⟨bP, oP + j, none⟩ = some (.slice dr c.length mr)) (by kernel_rfl) hSx.out (fun wd ed hHeld0 => ?_)
      have ownd := hown'.ext (w' := wd)
      refine wpAnyH_take (i := 0) (v := .slice d0 n0 m0) rfl (by kernel_rfl) (by kernel_rfl) (by kernel_rfl) (fun _ _ _ h => h) (Or.inl ⟨by rfl, by intro wx hx; go_simp⟩) (by assumption) ?_
      try simp only [List.getElem_toArray, List.getElem_cons_zero, Act.put, List.setIfInBounds_toArray, List.set_cons_zero, List.set_cons_succ]
      refine wpAnyH_take (i := 1) (v := .agg #[.slice a1 M.length c1]) rfl (by kernel_rfl) (by kernel_rfl) (by kernel_rfl) (fun _ _ _ h => h) (Or.inl ⟨by rfl, by intro wx hx; obtain ⟨_, _⟩ := hx; go_simp⟩) (by assumption) ?_
      try simp only [List.getElem_toArray, List.getElem_cons_succ, List.getElem_cons_zero, Act.put, List.setIfInBounds_toArray, List.set_cons_zero, List.set_cons_succ]
      refine wpAnyH_take (i := 2) (v := .slice da a.length ma) rfl (by kernel_rfl) (by kernel_rfl) (by kernel_rfl) (fun _ _ _ h => h) (Or.inl ⟨by rfl, by intro wx hx; go_simp⟩) (by assumption) ?_
      try simp only [List.getElem_toArray, List.getElem_cons_succ, List.getElem_cons_zero, Act.put, List.setIfInBounds_toArray, List.set_cons_zero, List.set_cons_succ]
      refine wpAnyH_take (i := 3) (v := .slice (some ⟨bP, oP, none⟩) P.length cP) rfl (by kernel_rfl) (by kernel_rfl) (by kernel_rfl) (fun _ _ _ h => h) (Or.inl ⟨by rfl, by intro wx hx; go_simp⟩) (by assumption) ?_
      try simp only [List.getElem_toArray, List.getElem_cons_succ, List.getElem_cons_zero, Act.put, List.setIfInBounds_toArray, List.set_cons_zero, List.set_cons_succ]
      refine wpAnyH_take (i := 4) (v := .int .i64 j) rfl (by kernel_rfl) (by kernel_rfl) (by kernel_rfl) (fun _ _ _ h => h) (Or.inl ⟨by rfl, by intro wx hx; go_simp⟩) (by assumption) ?_
      try simp only [List.getElem_toArray, List.getElem_cons_succ, List.getElem_cons_zero, Act.put, List.setIfInBounds_toArray, List.set_cons_zero, List.set_cons_succ]
      refine wpAnyH_take (i := 5) (v := .pointer (some ⟨bP, oP + j, none⟩)) rfl (by kernel_rfl) (by kernel_rfl) (by kernel_rfl) (fun _ _ _ h => h) (Or.inl ⟨by rfl, by intro wx hx; go_simp⟩) (by assumption) ?_
      try simp only [List.getElem_toArray, List.getElem_cons_succ, List.getElem_cons_zero, Act.put, List.setIfInBounds_toArray, List.set_cons_zero, List.set_cons_succ]
      refine wpAnyH_take (i := 6) (v := .slice dr c.length mr) rfl (by kernel_rfl) (by kernel_rfl) (by kernel_rfl) (fun _ _ _ h => h) (Or.inl ⟨by rfl, by intro wx hx; obtain ⟨_, _⟩ := hx; go_simp⟩) (by assumption) ?_
      try simp only [List.getElem_toArray, List.getElem_cons_succ, List.getElem_cons_zero, Act.put, List.setIfInBounds_toArray, List.set_cons_zero, List.set_cons_succ]
      refine wpAnyH_ready (rs := [7]) (by kernel_rfl) (by simp) ?_
      refine AllReadyH.cons rfl (fun K hK => ?_) AllReadyH.nil
      go_simp
      go_at_call 83
      have e0d : Ext w0 wd := Ext.trans e0q ed
      refine (l6Move_any (w0 := wd) (w := wd) (hm'.ext (e := e0d)) hM'.out (ha'.ext (e := e0d)) (hi1.ext (e := Ext.trans eq ed)) hap hcp.out (by rw [hak.out, hcl.out]) (by rw [hak.out]; exact hk)).mono ?_
      rintro e w6 ⟨rfl, e6⟩
      have e6q : Ext wq w6 := Ext.trans ed e6
      have hS6 := hSx.out w6 e6q
      have own6 := ownd.ext (w' := w6)
      have hB6 : B ≤ w6.heap.size := Nat.le_trans hBq e6q.size
      generalize mvC M a c = y at *
      go_wp2_with fail
      refine hK.out _ _ hS6 (fun _ => ?_)
      clear hK K
      try simp only [List.getElem_toArray, List.getElem_cons_succ, List.getElem_cons_zero, Act.put, List.setIfInBounds_toArray, List.set_cons_zero, List.set_cons_succ]
      refine wpAnyH_ready (rs := [8]) (by kernel_rfl) (by simp) ?_
      refine AllReadyH.cons rfl (fun K hK => ?_) AllReadyH.nil
      go_simp
      have oL := own6.lit 3 1 1 #[.int .i64 y] hB6 (by unfold maxLen; omega) rfl
      have e7q : Ext wq (w6.alloc (.cells #[.int .i64 y] 3)) := Ext.trans e6q inferInstance
      have hS7 := hSx.out _ e7q
      refine hK.out _ _ hS7 (fun _ => ?_)
      clear hK K
      try simp only [List.getElem_toArray, List.getElem_cons_succ, List.getElem_cons_zero, Act.put, List.setIfInBounds_toArray, List.set_cons_zero, List.set_cons_succ]
      generalize w6.alloc (.cells #[.int .i64 y] 3) = w7 at *
      generalize w6.heap.size = gl at *
      have o7 := oL.perm (List.Perm.swap _ _ _)
      have hB7 : B ≤ w7.heap.size := Nat.le_trans hBq e7q.size
      refine wpAnyH_ready (rs := [9]) (by kernel_rfl) (by simp) ?_
      refine AllReadyH.cons rfl (fun K hK => ?_) AllReadyH.nil
      have c7 : w7.cell? ⟨gl, 0, none⟩ = some (.int .i64 y) := by
        have h := o7.tail.head.cellAt 0 (show 0 < 1 * 1 by omega)
        simpa using h
      refine stp_one rfl (.tmp 22) (.tmp 30) 25 rfl elemInt rfl o7 hB7 (us := [.int .i64 y]) rfl rfl ?_ (by intro u hu; simp at hu; subst hu; rfl) (by omega) (by omega) ?_
      · intro jj u hj
        match jj, hj with
        | 0, hj => simp at hj; subst hj; exact c7
      intro v8 w8 ho8 hb8
      have own8 := (own_grow1 ho8 hn0.out).sub (List.Sublist.cons_cons _ (List.nil_sublist _))
      have b8 : Below B wP w8 := (hb.trans (e7q.below.mono hBq)).trans hb8
      have hS8 := hSb.out _ b8
      refine hK.out _ _ hS8 (fun _ => ?_)
      clear hK K
      try simp only [List.getElem_toArray, List.getElem_cons_succ, List.getElem_cons_zero, Act.put, List.setIfInBounds_toArray, List.set_cons_zero, List.set_cons_succ]
      refine wpAnyH_take (i := 10) (v := v8) rfl (by kernel_rfl) (by kernel_rfl) (by kernel_rfl) (fun _ _ _ h => h) (Or.inl ⟨by rfl, by intro wx hx; go_simp⟩) (by assumption) ?_
      try simp only [List.getElem_toArray, List.getElem_cons_succ, List.getElem_cons_zero, Act.put, List.setIfInBounds_toArray, List.set_cons_zero, List.set_cons_succ]
      refine wpAnyH_done (by kernel_rfl) ?_ _
      go_wp2_with fail
      go_roundw
      case rel => exact ⟨j + 1, by omega, by go_num, by rw [hXj.out]; exact own8, b8⟩
      case measure => simp [intOf]; omega
    · have hjP : j = P.length := by omega
      have hfin := hid (show Own wq B [intRowOf 3 (.slice d0 n0 m0) Xs] by
        have e : Xs.take j = Xs := by rw [hjP, ← hXl.out, List.take_length]
        rw [e] at hown
        exact hown)
      replace hjP := hid hjP
      go_wp2_with fail
      go_ret
      exact ⟨_, rfl, by rw [wst, ← hPd.out, ← hXs.out]; exact hfin.out.mono hBw.out, Ext.trans ePw eq⟩

set_option maxHeartbeats 3200000 in
set_option maxRecDepth 100000 in
theorem l7Run_any {v va vX : Value} {M : List (List Int)} {a X : List Int} {w0 w : World} [Ext w0 w] (hm : IsMet w0 v M) (hM : metB M = true) (ha : IsInts w0 va a) (hXi : IsInts w0 vX X) (h1k : 1 ≤ a.length) (hk : a.length ≤ 3) (hac : a ∈ confs M.length a.length 0) (hl : X.length ≤ 1000) (hX : ∀ j, j < X.length → 0 ≤ nth X j ∧ nth X j < (M.length : Int)) :
    Calls Try.prog 54 #[v, va, vX] w fun e w' => ∃ u, e = .returned (.tuple #[u, .int .i64 (rnS M (confs M.length a.length 0) a X X.length)]) ∧ IsRows w' u (rnT M (confs M.length a.length 0) a X X.length) ∧ Ext w w' := by
  have hm' := hm
  obtain ⟨v1, rfl, hR⟩ := hm
  obtain ⟨a1, c1, rfl, l1⟩ := hR.form
  have ha' := ha
  obtain ⟨da, ma, rfl, la⟩ := ha.form
  have hX' := hXi
  obtain ⟨aX, mX, rfl, lX⟩ := hXi.form
  have hMl := met_len hM
  have hdst := hid (dst_of_met hM)
  have hM' := hid hM
  clear hM
  have hwl := hid (wl_good hdst.out h1k hk hac hX hl)
  have hrn := hid (rn_conf hdst.out h1k hk hac hX hl)
  have hrt := hid (fun (i : Nat) (hi : i ≤ X.length) => rnT_mem hdst.out h1k hk hac hX hl hi)
  have hcl := hid (show ∀ c, c ∈ confs M.length a.length 0 → c.length = a.length ∧ ∀ x ∈ c, I64 x from fun c hc => by
    obtain ⟨h1, _, h3⟩ := confs_iff.1 hc
    exact ⟨h1, fun x hx => by have := h3 x hx; unfold I64; omega⟩)
  have hac' := hid hac
  clear hac
  replace hX := hid hX
  have h216 := confs_216 hMl.2 hk
  have hwll := hid (show ∀ i, i ≤ X.length → (wlAt M (confs M.length a.length 0) a X i).length ≤ 216 ∧ ∀ x ∈ wlAt M (confs M.length a.length 0) a X i, I64 x from fun i hi => by
    have h := hwl.out i hi
    exact ⟨by rw [h.1.1]; exact h216, good_i64 h (by omega)⟩)
  obtain ⟨w1, hw1⟩ : ∃ x, x = w.alloc (.cells #[.slice a1 M.length c1] 29) := ⟨_, rfl⟩
  have e1 : Ext w w1 := by rw [hw1]; infer_instance
  have x0 : w1.cell? ⟨w.heap.size, 0, none⟩ = some (.slice a1 M.length c1) := by rw [hw1]; go_simp
  have hz1 := hid (show w1.heap.size = w.heap.size + 1 by rw [hw1]; simp)
  obtain ⟨B, hB⟩ : ∃ b, b = w1.heap.size := ⟨_, rfl⟩
  have hEx := hid (show ∀ u, Below B w1 u → Ext w1 u from fun u h => ⟨by rw [← hB]; exact h⟩)
  have hBl := hid (show ∀ u, Ext w1 u → B ≤ u.heap.size from fun u e => by rw [hB]; exact e.size)
  have e01 : Ext w0 w1 := Ext.trans ‹Ext w0 w› e1
  have own0 : Own (w1.alloc (.cells #[] 25)) B [valRowOf 25 (.slice (some ⟨w1.heap.size, 0, none⟩) ([] : List Value).length 0) []] := by
    rw [hB]
    exact (Own.nil w1 w1.heap.size).lit 25 1 0 #[] (Nat.le_refl _) (by unfold maxLen; omega) rfl
  have b0 : Below B w1 (w1.alloc (.cells #[] 25)) := by rw [hB]; exact (Below.refl _ _).alloc (Nat.le_refl _) _
  replace hB := hid hB
  go_enter Try.func54, Try.ntmps54
  go_upto_region 1 with fail
  rw [← hw1]
  obtain ⟨bx, hbx⟩ : ∃ q, q = w.heap.size := ⟨_, rfl⟩
  rw [← hbx] at x0 hz1 ⊢
  replace hbx := hid hbx
  replace hw1 := hid hw1
  have x1 := (inferInstance : Ext w1 (w1.alloc (.cells #[] 25))).cell x0
  have e02 : Ext w0 (w1.alloc (.cells #[] 25)) := Ext.trans e01 inferInstance
  go_wp2_with fail
  refine (l7Start_any (w0 := w0) hm' hM'.out ha' hk hac'.out).mono ?_
  rintro e w2 ⟨u2, rfl, ownW, e2⟩
  have own2 := Own.join own0 ownW (hB := (hBl.out _ (inferInstance : Ext w1 (w1.alloc (.cells #[] 25)))))
  have b2 : Below B w1 w2 := ext_below b0 (hBl.out _ (inferInstance : Ext w1 (w1.alloc (.cells #[] 25))))
  clear ownW own0 b0
  have own2' : Own w2 B (valRowOf 25 (.slice (some ⟨w1.heap.size, 0, none⟩) ([] : List Value).length 0) [] :: (List.zipWith (intRowOf 3) [] (rnT M (confs M.length a.length 0) a X 0) ++ [intRowOf 3 u2 (wlAt M (confs M.length a.length 0) a X 0)])) := own2.perm (List.Perm.swap _ _ _)
  clear own2 x1 e02 e2
  obtain ⟨P, hPd⟩ : ∃ p, p = confs M.length a.length 0 := ⟨_, rfl⟩
  rw [← hPd] at own2' hwl hrn hrt hcl hac' h216 hwll
  replace hPd := hid hPd
  go_wp2_with fail
  go_loopw [1, 8, 9, 10, 11] (fun av ov wv sv i wr => ∃ (q : Nat) (vs : List Value), q ≤ X.length ∧ i = .int .i64 q ∧ sv = .int .i64 (rnS M P a X q) ∧ Hid (vs.length = q) ∧ Hid ((q = 0 ∧ av = .slice da a.length ma) ∨ (1 ≤ q ∧ av = vs.getD (q - 1) undef)) ∧ Own wr B (valRowOf 25 ov vs :: (List.zipWith (intRowOf 3) vs (rnT M P a X q) ++ [intRowOf 3 wv (wlAt M P a X q)])) ∧ Below B w1 wr) (fun _ _ _ _ i _ => X.length - (intOf i).toNat)
  case atStart => exact ⟨0, [], by omega, rfl, rfl, rfl, .inl ⟨rfl, rfl⟩, own2', b2⟩
  case round =>
    clear own2' b2
    obtain ⟨i, vs, hi, rfl, rfl, hvl, hav, hown, hb⟩ := hrel
    obtain ⟨wq, rfl⟩ : ∃ y : World, y = wr := ⟨_, rfl⟩
    have eq : Ext w1 wq := hEx.out _ hb
    have e0q : Ext w0 wq := Ext.trans e01 eq
    have hBq := hBl.out _ eq
    have hvl2 := hid (show vs.length = (rnT M P a X i).length by rw [hvl.out, rnT_len])
    obtain ⟨dO, mO, hO⟩ := hown.form
    replace hO : u8 = Value.slice dO vs.length mO := hO
    by_cases hlt : i < X.length
    · have hAi := hrn.out i hi
      have hA : IsInts wq u1 (rnA M P a X i) := by
        rcases hav.out with ⟨h0, h1⟩ | ⟨h0, h1⟩
        · rw [h1, h0]; exact ha'.ext
        · have hr : row (rnT M P a X i) (i - 1) = rnA M P a X i := by
            have : i - 1 < i := by omega
            simp [rnT, row, this, show i - 1 + 1 = i by omega]
          have h2 := hcl.out _ hAi.1
          have h3 := own_at hown hvl2.out (j := i - 1) (by rw [rnT_len]; omega) (by rw [hr]; unfold Short; omega) (by rw [hr]; exact h2.2)
          rw [h1]
          rw [hr] at h3
          exact h3
      clear hav
      have hAl := hcl.out _ hAi.1
      have hWl := hwll.out i hi
      have hown2 := hown.perm (S := intRowOf 3 u9 (wlAt M P a X i) :: (valRowOf 25 u8 vs :: List.zipWith (intRowOf 3) vs (rnT M P a X i))) (by
        have := List.perm_middle (a := intRowOf 3 u9 (wlAt M P a X i)) (l₁ := valRowOf 25 u8 vs :: List.zipWith (intRowOf 3) vs (rnT M P a X i)) (l₂ := [])
        rw [List.append_nil] at this
        exact this.symm)
      have hW := hown2.reads (by unfold Short; omega) hWl.2
      clear hown2
      subst hO
      obtain ⟨dA, mA, hAv, lA⟩ := hA.form
      subst hAv
      obtain ⟨dW, mW, hWv, lW⟩ := hW.form
      subst hWv
      obtain ⟨bX, oX, hdX, hcX⟩ := hX'.at (w' := wq) hlt
      cases hdX
      have x0q := eq.cell x0
      have hri := hid (hX.out i hlt)
      have hgW := hid (show GoodW M (confs M.length (rnA M P a X i).length 0) (wlAt M P a X i) 300000 by
        rw [hAl.1, ← hPd.out]
        exact (hwl.out i hi).mono (by omega))
      have hgN := hid (show GoodW M (confs M.length a.length 0) (wlAt M P a X (i + 1)) 300000 by
        rw [← hPd.out]
        exact (hwl.out (i + 1) hlt).mono (by omega))
      have hnw := hid (show wnxL M (confs M.length (rnA M P a X i).length 0) (wlAt M P a X i) (nth X i) = wlAt M P a X (i + 1) by rw [hAl.1, ← hPd.out]; rfl)
      have hAc := hid (show rnA M P a X i ∈ confs M.length a.length 0 by rw [← hPd.out]; exact hAi.1)
      have hsc := hid (show svC M (confs M.length a.length 0) (wlAt M P a X (i + 1)) (rnA M P a X i) (nth X i) = rnA M P a X (i + 1) by rw [← hPd.out]; rfl)
      have hsk := hid (show svK M (confs M.length a.length 0) (wlAt M P a X (i + 1)) (rnA M P a X i) (nth X i) = rnS M P a X (i + 1) - rnS M P a X i by rw [← hPd.out, rnS]; omega)
      have hs2 := (hrn.out (i + 1) hlt).2
      have hTs := hid (show rnT M P a X (i + 1) = rnT M P a X i ++ [rnA M P a X (i + 1)] from rnT_succ)
      have hNl := hwll.out (i + 1) hlt
      have hA2 := hcl.out _ (hrn.out (i + 1) hlt).1
      obtain ⟨A, hAd⟩ : ∃ y, y = rnA M P a X i := ⟨_, rfl⟩
      rw [← hAd] at hA hAi hAl hgW hnw hAc hsc hsk ⊢
      obtain ⟨W, hWd⟩ : ∃ y, y = wlAt M P a X i := ⟨_, rfl⟩
      rw [← hWd] at hW hWl hgW hnw hown ⊢
      obtain ⟨NW, hNW⟩ : ∃ y, y = wlAt M P a X (i + 1) := ⟨_, rfl⟩
      rw [← hNW] at hgN hnw hsc hsk hNl
      obtain ⟨A2, hA2d⟩ : ∃ y, y = rnA M P a X (i + 1) := ⟨_, rfl⟩
      rw [← hA2d] at hsc hTs hA2
      obtain ⟨r, hrd⟩ : ∃ y, y = nth X i := ⟨_, rfl⟩
      rw [← hrd] at hri hnw hsc hsk hcX
      obtain ⟨L, hL⟩ : ∃ y, y = rnT M P a X i := ⟨_, rfl⟩
      rw [← hL] at hown hTs hvl2
      obtain ⟨s1, hs1⟩ : ∃ y, y = rnS M P a X i := ⟨_, rfl⟩
      rw [← hs1] at hsk hAi ⊢
      obtain ⟨ck, hck⟩ : ∃ y, y = rnS M P a X (i + 1) - s1 := ⟨_, rfl⟩
      rw [← hck] at hsk
      have hck2 := hid (show s1 + ck = rnS M P a X (i + 1) by omega)
      have hsb : 0 ≤ s1 + ck ∧ s1 + ck ≤ 1000000 := by omega
      have hAk := hid hAl.1
      have hA2l := hA2.1
      have hA2i := hid hA2.2
      have hA3 : A.length ≤ 3 := by omega
      have hA1 : 1 ≤ A.length := by omega
      have hA23 : A2.length ≤ 3 := by omega
      have hs99 : 0 ≤ s1 ∧ s1 ≤ 100000 := by omega
      clear hAl hA2 hA2l hs2
      replace hAd := hid hAd
      replace hWd := hid hWd
      replace hNW := hid hNW
      replace hA2d := hid hA2d
      replace hrd := hid hrd
      replace hL := hid hL
      replace hs1 := hid hs1
      replace hck := hid hck
      replace hAi := hid hAi
      replace hWl := hid hWl
      have hNl1 := hNl.1
      have hNl2 := hid hNl.2
      clear hNl
      have hSx := hid (show ∀ u, Ext wq u → u.cell? ⟨bx, 0, none⟩ = some (.slice a1 M.length c1) ∧ u.cell? ⟨bX, oX + i, none⟩ = some (.int .i64 r) from fun u e => ⟨e.cell x0q, e.cell hcX⟩)
      clear x0q hcX
      go_wp2_with fail
      refine region_held_from (w0 := wq) (S := fun u => u.cell? ⟨bx, 0, none⟩ = some (.slice a1 M.length c1) ∧ u.cell? ⟨bX, oX + i, none⟩ = some (.int .i64 r)) (by kernel_rfl) hSx.out (fun wd ed hHeld0 => ?_)
      have e0d : Ext w0 wd := Ext.trans e0q ed
      refine wpAnyH_take (i := 0) (v := .agg #[.slice a1 M.length c1]) rfl (by kernel_rfl) (by kernel_rfl) (by kernel_rfl) (fun _ _ _ h => h) (Or.inl ⟨by rfl, by intro wx hx; obtain ⟨_, _⟩ := hx; go_simp⟩) (by assumption) ?_
      try simp only [List.getElem_toArray, List.getElem_cons_zero, Act.put, List.setIfInBounds_toArray, List.set_cons_zero, List.set_cons_succ]
      refine wpAnyH_take (i := 1) (v := .slice dA A.length mA) rfl (by kernel_rfl) (by kernel_rfl) (by kernel_rfl) (fun _ _ _ h => h) (Or.inl ⟨by rfl, by intro wx hx; go_simp⟩) (by assumption) ?_
      try simp only [List.getElem_toArray, List.getElem_cons_succ, List.getElem_cons_zero, Act.put, List.setIfInBounds_toArray, List.set_cons_zero, List.set_cons_succ]
      refine wpAnyH_take (i := 2) (v := .int .i64 A.length) rfl (by kernel_rfl) (by kernel_rfl) (by kernel_rfl) (fun _ _ _ h => h) (Or.inl ⟨by rfl, by intro wx hx; go_simp⟩) (by assumption) ?_
      try simp only [List.getElem_toArray, List.getElem_cons_succ, List.getElem_cons_zero, Act.put, List.setIfInBounds_toArray, List.set_cons_zero, List.set_cons_succ]
      refine wpAnyH_take (i := 3) (v := .slice dW W.length mW) rfl (by kernel_rfl) (by kernel_rfl) (by kernel_rfl) (fun _ _ _ h => h) (Or.inl ⟨by rfl, by intro wx hx; go_simp⟩) (by assumption) ?_
      try simp only [List.getElem_toArray, List.getElem_cons_succ, List.getElem_cons_zero, Act.put, List.setIfInBounds_toArray, List.set_cons_zero, List.set_cons_succ]
      refine wpAnyH_take (i := 4) (v := .slice (some ⟨bX, oX, none⟩) X.length mX) rfl (by kernel_rfl) (by kernel_rfl) (by kernel_rfl) (fun _ _ _ h => h) (Or.inl ⟨by rfl, by intro wx hx; go_simp⟩) (by assumption) ?_
      try simp only [List.getElem_toArray, List.getElem_cons_succ, List.getElem_cons_zero, Act.put, List.setIfInBounds_toArray, List.set_cons_zero, List.set_cons_succ]
      refine wpAnyH_take (i := 5) (v := .int .i64 i) rfl (by kernel_rfl) (by kernel_rfl) (by kernel_rfl) (fun _ _ _ h => h) (Or.inl ⟨by rfl, by intro wx hx; go_simp⟩) (by assumption) ?_
      try simp only [List.getElem_toArray, List.getElem_cons_succ, List.getElem_cons_zero, Act.put, List.setIfInBounds_toArray, List.set_cons_zero, List.set_cons_succ]
      refine wpAnyH_take (i := 6) (v := .pointer (some ⟨bX, oX + i, none⟩)) rfl (by kernel_rfl) (by kernel_rfl) (by kernel_rfl) (fun _ _ _ h => h) (Or.inl ⟨by rfl, by intro wx hx; go_simp⟩) (by assumption) ?_
      try simp only [List.getElem_toArray, List.getElem_cons_succ, List.getElem_cons_zero, Act.put, List.setIfInBounds_toArray, List.set_cons_zero, List.set_cons_succ]
      refine wpAnyH_take (i := 7) (v := .int .i64 r) rfl (by kernel_rfl) (by kernel_rfl) (by kernel_rfl) (fun _ _ _ h => h) (Or.inl ⟨by rfl, by intro wx hx; obtain ⟨_, _⟩ := hx; go_simp⟩) (by assumption) ?_
      try simp only [List.getElem_toArray, List.getElem_cons_succ, List.getElem_cons_zero, Act.put, List.setIfInBounds_toArray, List.set_cons_zero, List.set_cons_succ]
      refine wpAnyH_ready (rs := [8]) (by kernel_rfl) (by simp) ?_
      refine AllReadyH.cons rfl (fun K hK => ?_) AllReadyH.nil
      go_simp
      go_at_call 62
      refine (l7NextO_any (w0 := wd) (w := wd) (hm'.ext (e := e0d)) hM'.out (hW.ext (e := ed)) hA1 hA3 hgW.out (by omega) hri.out).mono ?_
      rw [hnw.out]
      rintro e w5 ⟨u5, rfl, ownN, e5⟩
      have hBd : B ≤ wd.heap.size := Nat.le_trans hBq ed.size
      have own5 := Own.join (hown.ext (w' := wd)) ownN (hB := hBd)
      have hN : IsInts w5 u5 NW := ownN.reads (by unfold Short; omega) hNl2.out
      clear ownN
      obtain ⟨dN, mN, rfl, lN⟩ := hN.form
      have e5q : Ext wq w5 := Ext.trans ed e5
      have hS5 := hSx.out w5 e5q
      go_wp2_with fail
      refine hK.out _ _ hS5 (fun _ => ?_)
      clear hK K
      try simp only [List.getElem_toArray, List.getElem_cons_succ, List.getElem_cons_zero, Act.put, List.setIfInBounds_toArray, List.set_cons_zero, List.set_cons_succ]
      refine wpAnyH_take (i := 9) (v := .slice dN NW.length mN) rfl (by kernel_rfl) (by kernel_rfl) (by kernel_rfl) (fun _ _ _ h => h) (Or.inl ⟨by rfl, by intro wx hx; go_simp⟩) (by assumption) ?_
      try simp only [List.getElem_toArray, List.getElem_cons_succ, List.getElem_cons_zero, Act.put, List.setIfInBounds_toArray, List.set_cons_zero, List.set_cons_succ]
      refine wpAnyH_done (by kernel_rfl) ?_ _
      go_wp2_with fail
      refine region_held_from (w0 := w5) (S := fun u => u.cell? ⟨bx, 0, none⟩ = some (.slice a1 M.length c1) ∧ u.cell? ⟨bX, oX + i, none⟩ = some (.int .i64 r)) (by kernel_rfl) (fun u e => hSx.out u (Ext.trans e5q e)) (fun we ee hHeld0 => ?_)
      have e0e : Ext w0 we := Ext.trans e0d (Ext.trans e5 ee)
      have e5e : Ext wq we := Ext.trans e5q ee
      refine wpAnyH_take (i := 0) (v := .agg #[.slice a1 M.length c1]) rfl (by kernel_rfl) (by kernel_rfl) (by kernel_rfl) (fun _ _ _ h => h) (Or.inl ⟨by rfl, by intro wx hx; obtain ⟨_, _⟩ := hx; go_simp⟩) (by assumption) ?_
      try simp only [List.getElem_toArray, List.getElem_cons_zero, Act.put, List.setIfInBounds_toArray, List.set_cons_zero, List.set_cons_succ]
      refine wpAnyH_take (i := 1) (v := .slice dN NW.length mN) rfl (by kernel_rfl) (by kernel_rfl) (by kernel_rfl) (fun _ _ _ h => h) (Or.inl ⟨by rfl, by intro wx hx; go_simp⟩) (by assumption) ?_
      try simp only [List.getElem_toArray, List.getElem_cons_succ, List.getElem_cons_zero, Act.put, List.setIfInBounds_toArray, List.set_cons_zero, List.set_cons_succ]
      refine wpAnyH_take (i := 2) (v := .slice dA A.length mA) rfl (by kernel_rfl) (by kernel_rfl) (by kernel_rfl) (fun _ _ _ h => h) (Or.inl ⟨by rfl, by intro wx hx; go_simp⟩) (by assumption) ?_
      try simp only [List.getElem_toArray, List.getElem_cons_succ, List.getElem_cons_zero, Act.put, List.setIfInBounds_toArray, List.set_cons_zero, List.set_cons_succ]
      refine wpAnyH_take (i := 3) (v := .slice (some ⟨bX, oX, none⟩) X.length mX) rfl (by kernel_rfl) (by kernel_rfl) (by kernel_rfl) (fun _ _ _ h => h) (Or.inl ⟨by rfl, by intro wx hx; go_simp⟩) (by assumption) ?_
      try simp only [List.getElem_toArray, List.getElem_cons_succ, List.getElem_cons_zero, Act.put, List.setIfInBounds_toArray, List.set_cons_zero, List.set_cons_succ]
      refine wpAnyH_take (i := 4) (v := .int .i64 i) rfl (by kernel_rfl) (by kernel_rfl) (by kernel_rfl) (fun _ _ _ h => h) (Or.inl ⟨by rfl, by intro wx hx; go_simp⟩) (by assumption) ?_
      try simp only [List.getElem_toArray, List.getElem_cons_succ, List.getElem_cons_zero, Act.put, List.setIfInBounds_toArray, List.set_cons_zero, List.set_cons_succ]
      refine wpAnyH_take (i := 5) (v := .pointer (some ⟨bX, oX + i, none⟩)) rfl (by kernel_rfl) (by kernel_rfl) (by kernel_rfl) (fun _ _ _ h => h) (Or.inl ⟨by rfl, by intro wx hx; go_simp⟩) (by assumption) ?_
      try simp only [List.getElem_toArray, List.getElem_cons_succ, List.getElem_cons_zero, Act.put, List.setIfInBounds_toArray, List.set_cons_zero, List.set_cons_succ]
      refine wpAnyH_take (i := 6) (v := .int .i64 r) rfl (by kernel_rfl) (by kernel_rfl) (by kernel_rfl) (fun _ _ _ h => h) (Or.inl ⟨by rfl, by intro wx hx; obtain ⟨_, _⟩ := hx; go_simp⟩) (by assumption) ?_
      try simp only [List.getElem_toArray, List.getElem_cons_succ, List.getElem_cons_zero, Act.put, List.setIfInBounds_toArray, List.set_cons_zero, List.set_cons_succ]
      refine wpAnyH_ready (rs := [7]) (by kernel_rfl) (by simp) ?_
      refine AllReadyH.cons rfl (fun K hK => ?_) AllReadyH.nil
      go_simp
      go_at_call 63
      refine (l7ServeO_any (w0 := we) (w := we) (hm'.ext (e := e0e)) hM'.out (hN.ext (e := ee)) (hA.ext (e := e5e)) h1k hk hAc.out hgN.out (by omega) hri.out).mono ?_
      rw [hsc.out, hsk.out]
      rintro e w6 ⟨u6, rfl, ownU, e6⟩
      obtain ⟨dU, mU, hu6⟩ := ownU.form
      replace hu6 : u6 = .slice dU A2.length mU := hu6
      subst hu6
      have hBe : B ≤ we.heap.size := Nat.le_trans hBq e5e.size
      have own6 := Own.join (own5.ext (w' := we)) ownU (hB := hBe)
      have ownT : Own w6 B (⟨25, 1, .slice dO vs.length mO, vs.length, vs⟩ :: (intRowOf 3 (.slice dU A2.length mU) A2 :: (List.zipWith (intRowOf 3) vs L ++ [intRowOf 3 (.slice dN NW.length mN) NW]))) := (own6.perm (perm_c _ _ _ _ _)).sub (List.Sublist.cons_cons _ (List.Sublist.cons_cons _ (List.Sublist.append (List.Sublist.refl _) (List.Sublist.cons_cons _ (List.nil_sublist _)))))
      clear own5 own6 ownU
      have b6 : Below B w1 w6 := (hb.trans (e5e.below.mono hBq)).trans (e6.below.mono hBe)
      have hB6 : B ≤ w6.heap.size := Nat.le_trans hBe e6.size
      have e6q : Ext wq w6 := Ext.trans e5e e6
      have hS6 := hSx.out w6 e6q
      go_wp2_with fail
      refine hK.out _ _ hS6 (fun _ => ?_)
      clear hK K
      try simp only [List.getElem_toArray, List.getElem_cons_succ, List.getElem_cons_zero, Act.put, List.setIfInBounds_toArray, List.set_cons_zero, List.set_cons_succ]
      refine wpAnyH_take (i := 8) (v := .tuple #[.slice dU A2.length mU, .int .i64 ck]) rfl (by kernel_rfl) (by kernel_rfl) (by kernel_rfl) (fun _ _ _ h => h) (Or.inl ⟨by rfl, by intro wx hx; go_simp⟩) (by assumption) ?_
      try simp only [List.getElem_toArray, List.getElem_cons_succ, List.getElem_cons_zero, Act.put, List.setIfInBounds_toArray, List.set_cons_zero, List.set_cons_succ]
      refine wpAnyH_take (i := 9) (v := .slice dU A2.length mU) rfl (by kernel_rfl) (by kernel_rfl) (by kernel_rfl) (fun _ _ _ h => h) (Or.inl ⟨by rfl, by intro wx hx; go_simp⟩) (by assumption) ?_
      try simp only [List.getElem_toArray, List.getElem_cons_succ, List.getElem_cons_zero, Act.put, List.setIfInBounds_toArray, List.set_cons_zero, List.set_cons_succ]
      refine wpAnyH_take (i := 10) (v := .int .i64 ck) rfl (by kernel_rfl) (by kernel_rfl) (by kernel_rfl) (fun _ _ _ h => h) (Or.inl ⟨by rfl, by intro wx hx; go_simp⟩) (by assumption) ?_
      try simp only [List.getElem_toArray, List.getElem_cons_succ, List.getElem_cons_zero, Act.put, List.setIfInBounds_toArray, List.set_cons_zero, List.set_cons_succ]
      refine wpAnyH_take (i := 11) (v := .slice dU A2.length mU) rfl (by kernel_rfl) (by kernel_rfl) (by kernel_rfl) (fun _ _ _ h => h) (Or.inl ⟨by rfl, by intro wx hx; go_simp⟩) (by assumption) ?_
      try simp only [List.getElem_toArray, List.getElem_cons_succ, List.getElem_cons_zero, Act.put, List.setIfInBounds_toArray, List.set_cons_zero, List.set_cons_succ]
      refine wpAnyH_take (i := 12) (v := .int .i64 ck) rfl (by kernel_rfl) (by kernel_rfl) (by kernel_rfl) (fun _ _ _ h => h) (Or.inl ⟨by rfl, by intro wx hx; go_simp⟩) (by assumption) ?_
      try simp only [List.getElem_toArray, List.getElem_cons_succ, List.getElem_cons_zero, Act.put, List.setIfInBounds_toArray, List.set_cons_zero, List.set_cons_succ]
      refine wpAnyH_done (by kernel_rfl) ?_ _
      have hvs2 : vs.length ≤ 1000 := by rw [hvl.out]; omega
      go_wp2_with (at_builtin; refine wpList_append1 rfl _ _ _ rfl elemInts rfl ownT hB6 rfl rfl (by omega) (by omega) ?_; intro v7 w7 ho hb7)
      have own7 := rows_in0 ho hvl2.out
      rw [← hTs.out] at own7
      go_roundw
      case rel =>
        refine ⟨i + 1, vs ++ [.slice dU A2.length mU], by omega, by go_num, by rw [hck2.out], ?_, ?_, by rw [← hNW.out]; exact own7, (b6.trans hb7)⟩
        · show (vs ++ [_]).length = i + 1
          rw [List.length_append, hvl.out]; rfl
        · refine .inr ⟨by omega, ?_⟩
          have : i = vs.length := hvl.out.symm
          simp [this]
      case measure => simp [intOf]; omega
    · have hin : i = X.length := by omega
      subst hO
      have hfin := hid (show IsRows wq (.slice dO vs.length mO) (rnT M P a X X.length) by
        rw [← hin]
        refine Own.readsAll (e1 := 25) (e2 := 3) (vs := vs) (R := [intRowOf 3 u9 (wlAt M P a X i)]) hown hvl2.out (by unfold ShortRows; rw [rnT_len]; omega) (fun r hr => ?_) (fun r hr => ?_)
        · have := (hcl.out r (hrt.out i hi r hr)).1
          unfold Short; omega
        · exact (hcl.out r (hrt.out i hi r hr)).2)
      have hsf := hid (show rnS M P a X i = rnS M (confs M.length a.length 0) a X X.length by rw [hin, hPd.out])
      rw [hsf.out]
      replace hin := hid hin
      go_wp2_with fail
      go_ret2
      exact ⟨_, rfl, by rw [← hPd.out]; exact hfin.out, Ext.trans e1 eq⟩
end Go.Proofs.Ytpiplhgiphndeaa
