/- What the law of the work function algorithm asks, in plain words. -/
import Derived.Test.YtmgcfnciejfpbaaGreatRGwP
import Derived.Test.YtmgcfnciejfpbaaGreatRGrI
import Derived.Test.YtmgcfnciejfpbaaGreatRGrJ
import Derived.Test.YtmgcfnciejfpbaaGreatRWsx
namespace Go.Proofs.YtmgcfnciejfpbaaGreat
open Go.RowKit

--PURE
theorem svT_min {M P : List (List Int)} {nx a : List Int} {r : Int} : ∀ {s : Nat}, ∀ t, t < s → (svT M P nx a r s).2.2 ≤ svN M P nx a r t := by
  intro s
  induction s with
  | zero => intro t ht; omega
  | succ s ih =>
    intro t ht
    rw [svT]
    split
    · rename_i hc
      by_cases e : t = s
      · rw [e]; exact Int.le_refl _
      · have := ih t (by omega)
        simp only
        omega
    · rename_i hc
      by_cases e : t = s
      · rw [e]; omega
      · exact ih t (by omega)
/-- a step of the algorithm costs what its configuration's value falls by -/
theorem wa_step {M : List (List Int)} {n k : Nat} {r L : Int} {ws a : List Int} (hd : Dst M n) (h1 : 1 ≤ k) (hk : k ≤ 3) (hg : GoodW M (confs n k 0) ws L) (hL : L ≤ 1000000) (hr : 0 ≤ r ∧ r < (n : Int)) (ha : a ∈ confs n k 0) :
    nth (wnxL M (confs n k 0) ws r) (atR (confs n k 0) a) = nth (wnxL M (confs n k 0) ws r) (atR (confs n k 0) (svC M (confs n k 0) (wnxL M (confs n k 0) ws r) a r)) + svK M (confs n k 0) (wnxL M (confs n k 0) ws r) a r ∧
    svK M (confs n k 0) (wnxL M (confs n k 0) ws r) a r = mvC M a (svC M (confs n k 0) (wnxL M (confs n k 0) ws r) a r) ∧
    svC M (confs n k 0) (wnxL M (confs n k 0) ws r) a r ∈ confs n k 0 ∧ r ∈ svC M (confs n k 0) (wnxL M (confs n k 0) ws r) a r := by
  have hgn := wnx_good (r := r) hd h1 hk hg hL hr
  have hlen := hg.1.1
  obtain ⟨ia, ea⟩ := atR_lt ha
  obtain ⟨al, ap, _⟩ := row_conf ia
  rw [ea] at al ap
  cases hh : hasB a r with
  | true =>
    have e1 : svC M (confs n k 0) (wnxL M (confs n k 0) ws r) a r = a := by rw [svC, if_pos hh]
    have e2 : svK M (confs n k 0) (wnxL M (confs n k 0) ws r) a r = 0 := by rw [svK, if_pos hh]
    rw [e1, e2]
    exact ⟨by omega, ((mvC_zero hd ap ap rfl (by omega)).2 (List.Perm.refl _)).symm, ha, hasB_true.1 hh⟩
  | false =>
    have hlt : ∀ t, t < a.length → svN M (confs n k 0) (wnxL M (confs n k 0) ws r) a r t < 1073741824 := fun t ht => by
      have := (svN_in hd hgn.1 ha (s := t) (by omega) hr).2
      omega
    obtain ⟨t, ht, et⟩ := svT_at hlt (by omega)
    have e1 : svC M (confs n k 0) (wnxL M (confs n k 0) ws r) a r = svX a r t := by rw [svC, hh, et]; rfl
    have e2 : svK M (confs n k 0) (wnxL M (confs n k 0) ws r) a r = cell M (nth a t).toNat r.toNat := by rw [svK, hh, et]; rfl
    have hmin := svT_min (M := M) (P := confs n k 0) (nx := wnxL M (confs n k 0) ws r) (a := a) (r := r) (s := a.length)
    rw [et] at hmin
    simp only at hmin
    rw [e1, e2]
    obtain ⟨hm, hrm⟩ := set_conf (s := t) ha (by omega) hr
    obtain ⟨ic, ec⟩ := atR_lt hm
    obtain ⟨cl, cp, _⟩ := row_conf ic
    rw [ec] at cl cp
    -- not more
    have hset := mvC_set hd (s := t) (r := r) ap hr ht (by omega)
    have hp := mvC_permR hd (sortL_perm (a.set t r)).symm ap (ap.set hr) (by simp) (by omega)
    have hlip := hgn.1.1.2 (atR (confs n k 0) a) (atR (confs n k 0) (svX a r t)) ia ic
    rw [ea, ec] at hlip
    -- not less
    have hne := next_eq hd h1 hk hg.1 (fun j hj => by have := hg.2 j hj; omega) hd.pos ia hr
    obtain ⟨_, s, hs, e⟩ := snAt_le (M := M) (P := confs n k 0) (ws := ws) (r := r) (i := atR (confs n k 0) a) k h1 (fun s hs => by
      obtain ⟨hm, _⟩ := sw_conf ia hs hr
      have h2 := hg.2 _ (atR_lt hm).1
      have h3 := ap (nth a s) (nth_mem (show s < a.length by omega))
      have h4 := hd.pos (nth a s).toNat r.toNat (by omega) (by omega)
      rw [swS, ea]
      omega)
    rw [hne, ← wnx_at (by omega)] at e
    rw [swS, swC, ea] at e
    obtain ⟨hm2, hrm2⟩ := set_conf (s := s) ha hs hr
    obtain ⟨is, es⟩ := atR_lt hm2
    have hw := (wnx_way hd h1 hk hg hL is hr).1 _ is (by rw [es]; exact hrm2)
    obtain ⟨sl, sp, _⟩ := row_conf is
    rw [← wnx_at (by omega), viS, (mvC_zero hd sp sp rfl (by omega)).2 (List.Perm.refl _)] at hw
    have h5 := hmin s (by omega)
    rw [svN] at h5
    have h6 : svN M (confs n k 0) (wnxL M (confs n k 0) ws r) a r s = nth (wnxL M (confs n k 0) ws r) (atR (confs n k 0) (svX a r s)) + cell M (nth a s).toNat r.toNat := rfl
    have hxs : svX a r s = sortL (a.set s r) := rfl
    rw [← hxs] at e
    have hxt : svX a r t = sortL (a.set t r) := rfl
    rw [← hxt] at hp
    have hge : nth (wnxL M (confs n k 0) ws r) (atR (confs n k 0) (svX a r t)) + cell M (nth a t).toNat r.toNat ≤ nth (wnxL M (confs n k 0) ws r) (atR (confs n k 0) a) := by omega
    exact ⟨by omega, by omega, hm, hrm⟩
theorem wa_conf {M : List (List Int)} {a X : List Int} (h : srvB M a X = true) {i : Nat} (hi : i ≤ X.length) : rnA M (confs M.length a.length 0) a X i ∈ confs M.length a.length 0 := by
  obtain ⟨hd, hk, ha, hX, hl⟩ := srv_all h
  exact (rn_conf hd hk.1 hk.2 ha hX (by omega) i hi).1
theorem wa_at {M : List (List Int)} {a X : List Int} (h : srvB M a X = true) {i : Nat} (hi : i < X.length) :
    nth (wlAt M (confs M.length a.length 0) a X (i + 1)) (atR (confs M.length a.length 0) (rnA M (confs M.length a.length 0) a X i)) = nth (wlAt M (confs M.length a.length 0) a X (i + 1)) (atR (confs M.length a.length 0) (rnA M (confs M.length a.length 0) a X (i + 1))) + (rnS M (confs M.length a.length 0) a X (i + 1) - rnS M (confs M.length a.length 0) a X i) ∧
    rnS M (confs M.length a.length 0) a X (i + 1) - rnS M (confs M.length a.length 0) a X i = mvC M (rnA M (confs M.length a.length 0) a X i) (rnA M (confs M.length a.length 0) a X (i + 1)) ∧
    nth X i ∈ rnA M (confs M.length a.length 0) a X (i + 1) := by
  obtain ⟨hd, hk, ha, hX, hl⟩ := srv_all h
  have hg := wl_good hd hk.1 hk.2 ha hX (by omega) i (by omega)
  obtain ⟨h1, h2, h3, h4⟩ := wa_step hd hk.1 hk.2 hg (by omega) (hX i hi) (wa_conf h (i := i) (by omega))
  have e1 : wlAt M (confs M.length a.length 0) a X (i + 1) = wnxL M (confs M.length a.length 0) (wlAt M (confs M.length a.length 0) a X i) (nth X i) := rfl
  have e2 : rnA M (confs M.length a.length 0) a X (i + 1) = svC M (confs M.length a.length 0) (wlAt M (confs M.length a.length 0) a X (i + 1)) (rnA M (confs M.length a.length 0) a X i) (nth X i) := rfl
  have e3 : rnS M (confs M.length a.length 0) a X (i + 1) = rnS M (confs M.length a.length 0) a X i + svK M (confs M.length a.length 0) (wlAt M (confs M.length a.length 0) a X (i + 1)) (rnA M (confs M.length a.length 0) a X i) (nth X i) := rfl
  rw [← e1] at h1 h2 h4
  rw [← e2] at h1 h2 h4
  rw [e3]
  exact ⟨by omega, by omega, h4⟩
theorem rnT_at {M P : List (List Int)} {a X : List Int} {n i : Nat} (h : i < n) : row (rnT M P a X n) i = rnA M P a X (i + 1) := by simp [rnT, row, h]
/-- the run is a schedule, and its moves cost what it pays -/
theorem wa_sched {M : List (List Int)} {a X : List Int} (h : srvB M a X = true) : smB M a X (rnT M (confs M.length a.length 0) a X X.length) = true ∧ smR M a X (rnT M (confs M.length a.length 0) a X X.length) = rnS M (confs M.length a.length 0) a X X.length := by
  have hB : smB M a X (rnT M (confs M.length a.length 0) a X X.length) = true := by
    refine smB_iff.2 ⟨h, rnT_len, fun i hi => ?_⟩
    rw [rnT_len] at hi
    have h1 := wa_conf h (i := i + 1) (by omega)
    obtain ⟨h2, h3⟩ := conf_pts h1
    obtain ⟨_, h5, _⟩ := confs_iff.1 h1
    refine smOk_iff.2 ?_
    rw [rnT_at hi]
    refine ⟨cfgB_iff.2 ⟨?_, h3, h5⟩, h2, hasB_true.2 (wa_at h hi).2.2⟩
    rw [h2]
    exact (srv_all h).2.1
  refine ⟨hB, ?_⟩
  rw [smR, if_pos hB]
  have key : ∀ i, i ≤ X.length → scTo M a (rnT M (confs M.length a.length 0) a X X.length) i = rnS M (confs M.length a.length 0) a X i ∧ scP a (rnT M (confs M.length a.length 0) a X X.length) i = rnA M (confs M.length a.length 0) a X i := by
    intro i
    induction i with
    | zero => intro _; exact ⟨rfl, rfl⟩
    | succ i ih =>
      intro hi
      obtain ⟨h1, h2⟩ := ih (by omega)
      have h3 := (wa_at h (i := i) (by omega)).2.1
      rw [scTo, h1, h2, rnT_at (by omega), scP_succ, rnT_at (by omega)]
      exact ⟨by omega, rfl⟩
  exact (key _ (Nat.le_refl _)).1
/-- the sum of the first growths -/
def gsTo (M : List (List Int)) (a X : List Int) : Nat → Int
  | 0 => 0
  | i + 1 => gsTo M a X i + gwR M a.length (row (wlR M a X) i) (nth X i)
theorem wa_sum {M : List (List Int)} {a X : List Int} (h : srvB M a X = true) : ∀ i, i ≤ X.length → rnS M (confs M.length a.length 0) a X i + nth (wlAt M (confs M.length a.length 0) a X i) (atR (confs M.length a.length 0) (rnA M (confs M.length a.length 0) a X i)) ≤ gsTo M a X i := by
  obtain ⟨hd, hk, ha, hX, hl⟩ := srv_all h
  intro i
  induction i with
  | zero =>
    intro _
    obtain ⟨ia, ea⟩ := atR_lt ha
    have e : nth (wst M (confs M.length a.length 0) a) (atR (confs M.length a.length 0) a) = mvC M a a := by
      have h1 := congrArg (mvC M a) ea
      simp only [row, List.getD_eq_getElem?_getD, List.getElem?_eq_getElem ia, Option.getD_some] at h1
      simp [wst, nth, ia, h1]
    have e0 : wlAt M (confs M.length a.length 0) a X 0 = wst M (confs M.length a.length 0) a := rfl
    have e1 : rnA M (confs M.length a.length 0) a X 0 = a := rfl
    have e2 : rnS M (confs M.length a.length 0) a X 0 = 0 := rfl
    rw [e0, e1, e2, e, mv_self hd hk.2 ha, gsTo]
    omega
  | succ i ih =>
    intro hi
    have h1 := ih (by omega)
    obtain ⟨h2, _, _⟩ := wa_at h (i := i) (by omega)
    obtain ⟨hL, _, hst⟩ := wl_all h
    obtain ⟨s1, s2, s3, _⟩ := hst i (by omega)
    have e1 : row (wlR M a X) i = wlAt M (confs M.length a.length 0) a X i := by rw [wlR_yes h, wlL_row (by omega)]
    have e2 : row (wlR M a X) (i + 1) = wlAt M (confs M.length a.length 0) a X (i + 1) := by rw [wlR_yes h, wlL_row (by omega)]
    have hcf := (atR_lt (wa_conf h (i := i) (by omega))).1
    have hle := (wl_good hd hk.1 hk.2 ha hX (by omega) (i + 1) (by omega)).1.1
    have h3 := (grw_spec (ws := row (wlR M a X) i) (nx := row (wlR M a X) (i + 1)) (row (wlR M a X) (i + 1)).length).2.1 _ (show atR (confs M.length a.length 0) (rnA M (confs M.length a.length 0) a X i) < (row (wlR M a X) (i + 1)).length by rw [e2, hle]; exact hcf)
    rw [gsTo, gwR, if_pos s1, s2]
    rw [← e1] at h1
    rw [← e2] at h2 ⊢
    omega
theorem list_rows {C D : List (List Int)} (hl : C.length = D.length) (h : ∀ i, i < C.length → row C i = row D i) : C = D := by
  refine List.ext_getElem hl fun i h1 h2 => ?_
  have := h i h1
  simpa [row, h1, h2] using this
/-- what the law asks of the run -/
theorem wa_law {M : List (List Int)} {a X : List Int} (h : srvB M a X = true) : (rrT M a X).length = X.length ∧ smB M a X (rrT M a X) = true ∧ smR M a X (rrT M a X) = rrS M a X ∧ lwR M a X ≤ rrS M a X ∧ (a.length = 1 → rrS M a X = lwR M a X) ∧
    rrS M a X + woR M a.length (row (wlR M a X) X.length) (rnA M (confs M.length a.length 0) a X X.length) ≤ gsTo M a X X.length ∧
    (∀ i, i < X.length → wsvC M a.length (row (wlR M a X) i) (rnA M (confs M.length a.length 0) a X i) (nth X i) = rnA M (confs M.length a.length 0) a X (i + 1) ∧ row (rrT M a X) i = rnA M (confs M.length a.length 0) a X (i + 1)) := by
  obtain ⟨hd, hk, ha, hX, hl⟩ := srv_all h
  obtain ⟨h1, h2⟩ := wa_sched h
  obtain ⟨hL, hiw, hst⟩ := wl_all h
  have eT : rrT M a X = rnT M (confs M.length a.length 0) a X X.length := by rw [rrT, if_pos h]
  have eS : rrS M a X = rnS M (confs M.length a.length 0) a X X.length := by rw [rrS, if_pos h]
  have hcfg : ∀ i, i ≤ X.length → cfgB M.length (rnA M (confs M.length a.length 0) a X i) = true ∧ (rnA M (confs M.length a.length 0) a X i).length = a.length := fun i hi => by
    have h1 := wa_conf h hi
    obtain ⟨h2, h3⟩ := conf_pts h1
    obtain ⟨_, h5, _⟩ := confs_iff.1 h1
    exact ⟨cfgB_iff.2 ⟨by rw [h2]; exact hk, h3, h5⟩, h2⟩
  rw [eT, eS]
  refine ⟨rnT_len, h1, h2, by rw [← h2]; exact least_le h1, fun e => ?_, ?_, fun i hi => ⟨?_, rnT_at hi⟩⟩
  · have h3 := ls_sched h
    rw [← h2, ← ls_least h]
    congr 1
    obtain ⟨_, g1, g2⟩ := smB_iff.1 h1
    obtain ⟨_, g3, g4⟩ := smB_iff.1 h3.1
    have one : ∀ {x : List Int} {r : Int}, x.length = a.length → hasB x r = true → x = [r] := fun {x r} hx hr => by
      rw [e] at hx
      match x, hx with
      | [y], _ =>
        have := hasB_true.1 hr
        simp at this
        rw [this]
    refine list_rows (by rw [g1, g3]) fun i hi => ?_
    obtain ⟨_, k1, k2⟩ := smOk_iff.1 (g2 i hi)
    obtain ⟨_, k3, k4⟩ := smOk_iff.1 (g4 i (by omega))
    rw [one k1 k2, one k3 k4]
  · have h3 := wa_sum h X.length (Nat.le_refl _)
    have hw := hiw X.length (by omega)
    obtain ⟨c1, c2⟩ := hcfg X.length (Nat.le_refl _)
    have hwo : woB M a.length (row (wlR M a X) X.length) (rnA M (confs M.length a.length 0) a X X.length) = true := by rw [woB, hw, c1]; simp [c2]
    rw [woR, if_pos hwo, Int.toNat_natCast, show row (wlR M a X) X.length = wlAt M (confs M.length a.length 0) a X X.length by rw [wlR_yes h, wlL_row (by omega)]]
    exact h3
  · obtain ⟨s1, s2, _, _⟩ := hst i hi
    obtain ⟨c1, c2⟩ := hcfg i (by omega)
    have hwb : wsvB M a.length (row (wlR M a X) i) (rnA M (confs M.length a.length 0) a X i) (nth X i) = true := by rw [wsvB, s1, c1]; simp [c2]
    rw [(wsv_yes hwb).1, Int.toNat_natCast, show row (wlR M a X) i = wlAt M (confs M.length a.length 0) a X i by rw [wlR_yes h, wlL_row (by omega)]]
    rfl
/-- who serves is at the request -/
theorem wsv_has {M : List (List Int)} {k r : Int} {ws a : List Int} (h : wsvB M k ws a r = true) : hasB (wsvC M k ws a r) r = true := by
  have h' := h
  simp only [wsvB, stB, Bool.and_eq_true, decide_eq_true_eq] at h'
  obtain ⟨⟨h1, _⟩, h2, h3⟩ := h'
  obtain ⟨hM, hk, hr, hw⟩ := giv_parts h1
  rw [(wsv_yes h).1]
  exact hasB_true.2 (wa_step (dst_of_met hM) (k := k.toNat) (by omega) (by omega) (work_good hw) (by omega) hr (cfg_conf h2 (by omega))).2.2.2
end Go.Proofs.YtmgcfnciejfpbaaGreat
