/- The greatest growth of a work list, and the configuration where it is: plain laws. -/
import Derived.Test.YtmgcfnciejfpbaaGreatQQcP
import Derived.Test.YtmgcfnciejfpbaaGreatQWlP
namespace Go.Proofs.YtmgcfnciejfpbaaGreat
open Go.RowKit

--PURE
/-- the greatest growth among the first values, at least 0 -/
def grwTo (ws nx : List Int) : Nat → Int
  | 0 => 0
  | i + 1 => max (grwTo ws nx i) (nth nx i - nth ws i)
def gwR (M : List (List Int)) (k : Int) (ws : List Int) (r : Int) : Int := if stB M k ws r then grwTo ws (stL M k ws r) (stL M k ws r).length else 0
/-- the sum of the first distances to a point -/
def dsTo (M : List (List Int)) (x : List Int) (r : Int) : Nat → Int
  | 0 => 0
  | i + 1 => dsTo M x r i + cell M (nth x i).toNat r.toNat
def farV (M P : List (List Int)) (ws : List Int) (r : Int) (i : Nat) : Int := nth ws i - dsTo M (row P i) r (row P i).length
/-- where the least of the first values is -/
def farTo (M P : List (List Int)) (ws : List Int) (r : Int) : Nat → Nat
  | 0 => 0
  | i + 1 => if farV M P ws r i < farV M P ws r (farTo M P ws r i) then i else farTo M P ws r i
def fcR (M : List (List Int)) (k : Int) (ws : List Int) (r : Int) : List Int := if givB M k ws r then row (confs M.length k.toNat 0) (farTo M (confs M.length k.toNat 0) ws r (confs M.length k.toNat 0).length) else []
theorem far_one {M P : List (List Int)} {ws : List Int} {r : Int} : farTo M P ws r 1 = 0 := by simp [farTo]
theorem far_spec {M P : List (List Int)} {ws : List Int} {r : Int} : ∀ i, (farTo M P ws r i = 0 ∨ farTo M P ws r i < i) ∧ ∀ j, j < i → farV M P ws r (farTo M P ws r i) ≤ farV M P ws r j
  | 0 => ⟨.inl rfl, by omega⟩
  | i + 1 => by
    obtain ⟨h1, h2⟩ := far_spec (M := M) (P := P) (ws := ws) (r := r) i
    rw [farTo]
    split
    · refine ⟨.inr (by omega), fun j hj => ?_⟩
      by_cases e : j = i
      · rw [e]; exact Int.le_refl _
      · have := h2 j (by omega); omega
    · refine ⟨by omega, fun j hj => ?_⟩
      by_cases e : j = i
      · rw [e]; omega
      · exact h2 j (by omega)
theorem sum_in {M : List (List Int)} {n : Nat} (hd : Dst M n) {x : List Int} {r : Int} (hx : Pts n x) (hr : 0 ≤ r ∧ r < (n : Int)) : ∀ i, i ≤ x.length → 0 ≤ dsTo M x r i ∧ dsTo M x r i ≤ 99 * i
  | 0, _ => by simp [dsTo]
  | i + 1, h => by
    have h1 := sum_in hd hx hr i (by omega)
    have h2 := hx _ (nth_mem (show i < x.length by omega))
    have h3 := hd.pos (nth x i).toNat r.toNat (by omega) (by omega)
    rw [dsTo]
    omega
theorem grw_spec {ws nx : List Int} : ∀ i, 0 ≤ grwTo ws nx i ∧ (∀ j, j < i → nth nx j - nth ws j ≤ grwTo ws nx i) ∧ (grwTo ws nx i = 0 ∨ ∃ j, j < i ∧ grwTo ws nx i = nth nx j - nth ws j)
  | 0 => ⟨by simp [grwTo], by omega, .inl rfl⟩
  | i + 1 => by
    obtain ⟨h1, h2, h3⟩ := grw_spec (ws := ws) (nx := nx) i
    rw [grwTo]
    refine ⟨by omega, fun j hj => ?_, ?_⟩
    · by_cases e : j = i
      · rw [e]; omega
      · have := h2 j (by omega); omega
    · by_cases e : grwTo ws nx i ≤ nth nx i - nth ws i
      · exact .inr ⟨i, by omega, by omega⟩
      · rcases h3 with h3 | ⟨j, hj, h3⟩
        · exact .inl (by omega)
        · exact .inr ⟨j, by omega, by omega⟩
/-- the distances to a point, all of them -/
def dsF (M : List (List Int)) (r : Int) : List Int → Int
  | [] => 0
  | p :: x => cell M p.toNat r.toNat + dsF M r x
theorem dsF_perm {M : List (List Int)} {r : Int} {x y : List Int} (p : x.Perm y) : dsF M r x = dsF M r y := by
  induction p with
  | nil => rfl
  | cons a _ ih => simp [dsF, ih]
  | swap a b l => simp only [dsF]; omega
  | trans _ _ ih1 ih2 => rw [ih1, ih2]
theorem dsTo_cons {M : List (List Int)} {r p : Int} {x : List Int} : ∀ i, dsTo M (p :: x) r (i + 1) = cell M p.toNat r.toNat + dsTo M x r i
  | 0 => by simp [dsTo, nth]
  | i + 1 => by
    rw [dsTo, dsTo_cons i, dsTo]
    have : nth (p :: x) (i + 1) = nth x i := by simp [nth]
    rw [this]
    omega
theorem dsF_to {M : List (List Int)} {r : Int} : ∀ x : List Int, dsTo M x r x.length = dsF M r x
  | [] => rfl
  | p :: x => by rw [List.length_cons, dsTo_cons, dsF_to x, dsF]
/-- the configuration whose value less the distances is the least grows the most -/
theorem dual {M : List (List Int)} {n k : Nat} {r L : Int} {ws : List Int} (hd : Dst M n) (h1 : 1 ≤ k) (hk : k ≤ 3) (hg : GoodW M (confs n k 0) ws L) (hL : L ≤ 1000000) (hr : 0 ≤ r ∧ r < (n : Int)) (hq : Qx (confs n k 0) n k ws)
    {ia ib : Nat} (ha : ia < (confs n k 0).length) (hb : ib < (confs n k 0).length) (hmin : ∀ j, j < (confs n k 0).length → farV M (confs n k 0) ws r ia ≤ farV M (confs n k 0) ws r j) :
    nth (wnxL M (confs n k 0) ws r) ib - nth ws ib ≤ nth (wnxL M (confs n k 0) ws r) ia - nth ws ia := by
  have hlen := hg.1.1
  have hS := stp_next hd h1 hk hg hL hr
  obtain ⟨a1, a2, a3⟩ := row_conf ha
  obtain ⟨b1, b2, b3⟩ := row_conf hb
  -- the step of the first one is an exchange with the point
  have hne := next_eq hd h1 hk hg.1 (fun j hj => by have := hg.2 j hj; omega) hd.pos ha hr
  obtain ⟨_, s, hs, e⟩ := snAt_le (M := M) (P := confs n k 0) (ws := ws) (r := r) (i := ia) k h1 (fun s hs => by
    obtain ⟨hm, _⟩ := sw_conf ha hs hr
    have h2 := hg.2 _ (atR_lt hm).1
    have h3 := a2 _ (nth_mem (show s < (row (confs n k 0) ia).length by omega))
    have h4 := hd.pos (nth (row (confs n k 0) ia) s).toNat r.toNat (by omega) (by omega)
    rw [swS]
    omega)
  rw [hne, ← wnx_at (by omega)] at e
  obtain ⟨A, hA⟩ : ∃ A, A = row (confs n k 0) ia := ⟨_, rfl⟩
  obtain ⟨Bv, hB⟩ : ∃ B, B = row (confs n k 0) ib := ⟨_, rfl⟩
  have eA : qW (confs n k 0) ws A = nth ws ia := by rw [qW, hA, sortL_of_asc a3, atR_row ha]
  have eB : qW (confs n k 0) ws Bv = nth ws ib := by rw [qW, hB, sortL_of_asc b3, atR_row hb]
  have eB' : qW (confs n k 0) (wnxL M (confs n k 0) ws r) Bv = nth (wnxL M (confs n k 0) ws r) ib := by rw [qW, hB, sortL_of_asc b3, atR_row hb]
  have ex : qW (confs n k 0) ws (A.set s r) = nth ws (atR (confs n k 0) (swC (confs n k 0) r ia s)) := by rw [qW, hA, swC]
  rw [swS, ← ex, ← hA] at e
  rw [← hA] at a1 a2
  rw [← hB] at b1 b2
  have hsl : s < A.length := by omega
  have hxl : (A.set s r).length = k := by rw [List.length_set, a1]
  have hxp : Pts n (A.set s r) := a2.set hr
  obtain ⟨Q, hQ, p1, p2⟩ := hq (A.set s r) Bv hxl b1 hxp b2
  have hrm : r ∈ Q.map Prod.fst := p1.mem_iff.2 (List.mem_iff_getElem.2 ⟨s, by rw [List.length_set]; exact hsl, by simp⟩)
  obtain ⟨⟨r', q⟩, hpm, er⟩ := List.mem_map.1 hrm
  have er' : r' = r := er
  subst er'
  obtain ⟨K, hK⟩ := mem_perm hpm
  have hQ' := hQ.perm hK
  have px := p1.symm.trans (hK.map Prod.fst)
  have py := p2.symm.trans (hK.map Prod.snd)
  simp only [List.map_cons] at px py
  have h := hQ' ((false, r', q) :: K.map fun p => (true, p)) (by simp [List.map_map, Function.comp_def])
  have m1 : ((false, r', q) :: K.map fun p => (true, p)).map mxA = q :: K.map Prod.fst := by simp [mxA, List.map_map, Function.comp_def]
  have m2 : ((false, r', q) :: K.map fun p => (true, p)).map mxB = r' :: K.map Prod.snd := by simp [mxB, List.map_map, Function.comp_def]
  rw [m1, m2] at h
  simp only [List.map_cons] at h
  rw [← qW_perm px, ← qW_perm py, eB] at h
  -- the first one again, from its neighbour
  have pA : A.Perm (nth A s :: K.map Prod.fst) := by
    have h2 := set_perm (x := A.set s r') (s := s) (q := nth A s) (K := K.map Prod.fst) (by rw [List.length_set]; exact hsl) (by
      rw [show nth (A.set s r') s = r' by simp [nth, hsl]]
      exact px)
    rw [List.set_set, show A.set s (nth A s) = A by
      rw [show nth A s = A[s] by simp [nth, hsl]]
      exact List.set_getElem_self _] at h2
    exact h2
  have hq0 : 0 ≤ q ∧ q < (n : Int) := b2 q (py.mem_iff.2 (.head _))
  have hKf : Pts n (K.map Prod.fst) := fun p hp => a2 p (pA.mem_iff.2 (.tail _ hp))
  have hKs : Pts n (K.map Prod.snd) := fun p hp => b2 p (py.mem_iff.2 (.tail _ hp))
  have hKl : (K.map Prod.fst).length + 1 = k := by have := pA.length_eq; rw [List.length_cons] at this; omega
  have hKl2 : (K.map Prod.snd).length + 1 = k := by have := py.length_eq; rw [List.length_cons] at this; omega
  have hc1 : Pts n (q :: K.map Prod.fst) := fun p hp => by
    rcases List.mem_cons.1 hp with rfl | hp
    · exact hq0
    · exact hKf p hp
  have hsc := sort_conf (n := n) (k := k) (x := q :: K.map Prod.fst) (by rw [List.length_cons]; omega) hc1
  obtain ⟨iz, ez⟩ := atR_lt hsc
  have hm := hmin _ iz
  rw [farV, farV, ez, ← hA, dsF_to, dsF_to, dsF_perm (sortL_perm _), dsF_perm pA, dsF, dsF, ← eA] at hm
  have hzq : nth ws (atR (confs n k 0) (sortL (q :: K.map Prod.fst))) = qW (confs n k 0) ws (q :: K.map Prod.fst) := rfl
  rw [hzq] at hm
  have hc2 : Pts n (r' :: K.map Prod.snd) := fun p hp => by
    rcases List.mem_cons.1 hp with rfl | hp
    · exact hr
    · exact hKs p hp
  have hc3 : Pts n (q :: K.map Prod.snd) := fun p hp => b2 p (py.mem_iff.2 hp)
  have g1 := hS.1 Bv (r' :: K.map Prod.snd) b1 (by rw [List.length_cons]; omega) b2 hc2 (.head _)
  rw [eB', mvC_permR hd py.symm hc2 hc3 (by simp) (by rw [List.length_cons]; omega)] at g1
  have g2 := (mvC_min hd hc2 hc3 (by simp) (by rw [List.length_cons]; omega)).2.1 _ (List.Perm.refl _)
  have g3 : costL M (r' :: K.map Prod.snd) (q :: K.map Prod.snd) = cell M r'.toNat q.toNat := by
    rw [costL, costL_self hd.self _ hKs]
    omega
  rw [g3, hd.symm r'.toNat q.toNat (by omega) (by omega)] at g2
  omega
/-- the law of growth -/
theorem gw_law {M : List (List Int)} {a X : List Int} (h : srvB M a X = true) {i : Nat} (hi : i < X.length) :
    ∃ x, fcR M a.length (row (wlR M a X) i) (nth X i) = x ∧ woB M a.length (row (wlR M a X) i) x = true ∧ woB M a.length (row (wlR M a X) (i + 1)) x = true ∧
      woR M a.length (row (wlR M a X) (i + 1)) x - woR M a.length (row (wlR M a X) i) x = gwR M a.length (row (wlR M a X) i) (nth X i) := by
  obtain ⟨hd, hk, ha, hX, hl⟩ := srv_all h
  obtain ⟨hL, hiw, hst⟩ := wl_all h
  obtain ⟨s1, s2, s3, s4⟩ := hst i hi
  have w1 := hiw i (by omega)
  have w2 := hiw (i + 1) (by omega)
  have hr := hX i hi
  have hg := wl_good hd hk.1 hk.2 ha hX (by omega) i (by omega)
  have hqx := qx_at hd hk.1 hk.2 ha hX (by omega) i (by omega)
  have e1 : row (wlR M a X) i = wlAt M (confs M.length a.length 0) a X i := by rw [wlR_yes h, wlL_row (by omega)]
  have e2 : row (wlR M a X) (i + 1) = wnxL M (confs M.length a.length 0) (wlAt M (confs M.length a.length 0) a X i) (nth X i) := by rw [wlR_yes h, wlL_row (by omega)]; rfl
  have hgv : givB M a.length (row (wlR M a X) i) (nth X i) = true := by rw [stB, Bool.and_eq_true] at s1; exact s1.1
  have hcp := confs_pos (n := M.length) (k := a.length) (by omega)
  obtain ⟨f1, f2⟩ := far_spec (M := M) (P := confs M.length a.length 0) (ws := row (wlR M a X) i) (r := nth X i) (confs M.length a.length 0).length
  obtain ⟨F, hF⟩ : ∃ F, F = farTo M (confs M.length a.length 0) (row (wlR M a X) i) (nth X i) (confs M.length a.length 0).length := ⟨_, rfl⟩
  rw [← hF] at f1 f2
  have hFl : F < (confs M.length a.length 0).length := by omega
  have hfc : fcR M a.length (row (wlR M a X) i) (nth X i) = row (confs M.length a.length 0) F := by rw [fcR, if_pos hgv, Int.toNat_natCast, ← hF]
  obtain ⟨c1, c2, c3⟩ := row_conf hFl
  have hcf : cfgB M.length (row (confs M.length a.length 0) F) = true := cfgB_iff.2 ⟨by rw [c1]; exact hk, c2, c3⟩
  have wo : ∀ ws, iwB M a.length ws = true → woB M a.length ws (row (confs M.length a.length 0) F) = true ∧ woR M a.length ws (row (confs M.length a.length 0) F) = nth ws F := fun ws hw => by
    have : woB M a.length ws (row (confs M.length a.length 0) F) = true := by rw [woB, hw, hcf]; simp [c1]
    exact ⟨this, by rw [woR, if_pos this, Int.toNat_natCast, atR_row hFl]⟩
  refine ⟨_, hfc, (wo _ w1).1, (wo _ w2).1, ?_⟩
  rw [(wo _ w1).2, (wo _ w2).2, gwR, if_pos s1, s2]
  have hle := hg.1.1
  have hl2 : (row (wlR M a X) (i + 1)).length = (confs M.length a.length 0).length := by rw [← s3, e1, hle]
  obtain ⟨g1, g2, g3⟩ := grw_spec (ws := row (wlR M a X) i) (nx := row (wlR M a X) (i + 1)) (row (wlR M a X) (i + 1)).length
  have g4 := g2 F (by omega)
  have g5 := s4 F (by omega)
  rcases g3 with g3 | ⟨j, hj, g3⟩
  · omega
  · have hdu := dual hd hk.1 hk.2 hg (by omega) hr hqx (ia := F) (ib := j) hFl (by omega) (fun j hj => by rw [← e1]; exact f2 j hj)
    rw [← e2, ← e1] at hdu
    omega
end Go.Proofs.YtmgcfnciejfpbaaGreat
