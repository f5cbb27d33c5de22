/- The least cost of a chain list is the least cost of a schedule: plain words. -/
import Derived.Test.YtcfhmbmagkoekaaGrI
import Derived.Test.YtcfhmbmagkoekaaLpP
namespace Go.Proofs.Ytcfhmbmagkoekaa
open Go.RowKit

/-- the points of the last things that the servers served -/
def ptF (a X : List Int) (k : Nat) (e : Nat → Nat) : List Int := (List.range k).map fun s => nth (a ++ X) (e s)
theorem ptF_len (a X : List Int) (k : Nat) (e : Nat → Nat) : (ptF a X k e).length = k := by simp [ptF]
theorem ptF_at {a X : List Int} {k : Nat} {e : Nat → Nat} {s : Nat} (h : s < k) : nth (ptF a X k e) s = nth (a ++ X) (e s) := by simp [ptF, nth, h]
theorem ptF_set {a X : List Int} {k : Nat} {e : Nat → Nat} {s l : Nat} : (ptF a X k e).set s (nth (a ++ X) l) = ptF a X k (updN e s l) := by
  apply List.ext_getElem
  · simp [ptF]
  · intro i h1 h2
    simp only [ptF, List.getElem_set, List.getElem_map, List.getElem_range, updN]
    by_cases h : s = i
    · rw [if_pos h, if_pos h.symm]
    · rw [if_neg h, if_neg (fun e => h e.symm)]
theorem nth_app_left {a X : List Int} {l : Nat} (h : l < a.length) : nth (a ++ X) l = nth a l := by
  unfold nth
  rw [List.getD_eq_getElem?_getD, List.getD_eq_getElem?_getD, List.getElem?_append_left h]
theorem nth_app_right {a X : List Int} {i : Nat} : nth (a ++ X) (a.length + i) = nth X i := by
  unfold nth
  rw [List.getD_eq_getElem?_getD, List.getD_eq_getElem?_getD, List.getElem?_append_right (by omega)]
  congr 2
  omega
theorem ptF_id (a X : List Int) : ptF a X a.length id = a := by
  apply List.ext_getElem
  · simp [ptF]
  · intro i h1 h2
    simp only [ptF, List.getElem_map, List.getElem_range, id]
    rw [nth_app_left h2]
    simp [nth, h2]
theorem ptF_pts {a X : List Int} {n k i : Nat} {e : Nat → Nat} (ha : Pts n a) (hX : ∀ j, j < X.length → 0 ≤ nth X j ∧ nth X j < (n : Int)) (hi : i ≤ X.length) (he : ∀ s, s < k → e s < a.length + i) : Pts n (ptF a X k e) := fun x hx => by
  obtain ⟨s, hs, rfl⟩ := List.mem_map.1 hx
  have h := he s (List.mem_range.1 hs)
  by_cases h1 : e s < a.length
  · rw [nth_app_left h1]
    exact ha _ (nth_mem h1)
  · rw [show e s = a.length + (e s - a.length) by omega, nth_app_right]
    exact hX _ (by omega)
theorem scTo_congr {M : List (List Int)} {a : List Int} {C D : List (List Int)} : ∀ {i : Nat}, (∀ j, j < i → row C j = row D j) → scTo M a C i = scTo M a D i
  | 0, _ => rfl
  | i + 1, h => by
    have h1 := scTo_congr (M := M) (a := a) (i := i) fun j hj => h j (by omega)
    have h2 : scP a C i = scP a D i := by
      unfold scP
      by_cases e : i = 0
      · rw [if_pos e, if_pos e]
      · rw [if_neg e, if_neg e]; exact h (i - 1) (by omega)
    simp only [scTo]
    rw [h1, h2, h i (by omega)]
theorem row_app {C : List (List Int)} {x : List Int} {j : Nat} (h : j < C.length) : row (C ++ [x]) j = row C j := by
  unfold row
  rw [List.getD_eq_getElem?_getD, List.getD_eq_getElem?_getD, List.getElem?_append_left h]
theorem row_last {C : List (List Int)} {x : List Int} : row (C ++ [x]) C.length = x := by simp [row]
theorem srt_conf {n k : Nat} {x : List Int} (hl : x.length = k) (hx : Pts n x) : sortL x ∈ confs n k 0 :=
  confs_iff.2 ⟨by rw [sortL_len, hl], sortL_asc x, fun q hq => by have := hx q ((sortL_perm x).mem_iff.1 hq); omega⟩
/-- a chain list is a way to serve: no schedule need cost more -/
theorem chain_sched {M : List (List Int)} {a X : List Int} (hs : srvB M a X = true) {f : Nat → Nat} (hf : Mtc (Al a.length) X.length (a.length + X.length) f) :
    ∀ i, i ≤ X.length → ∃ (e : Nat → Nat) (C : List (List Int)), C.length = i ∧ (∀ s, s < a.length → e s < a.length + i) ∧ (∀ l, l < a.length + i → (∀ j, j < i → f j ≠ l) → ∃ s, s < a.length ∧ e s = l) ∧
      (∀ j, j < i → row C j ∈ confs M.length a.length 0 ∧ nth X j ∈ row C j) ∧ (scP a C i).Perm (ptF a X a.length e) ∧ scTo M a C i ≤ sgTo (fun j => flC M a X j (f j)) i := by
  obtain ⟨hd, hk, ha, hX, hl⟩ := srv_all hs
  have hap := (conf_pts ha).2
  intro i
  induction i with
  | zero =>
    intro _
    refine ⟨id, [], rfl, fun s h => by simpa using h, fun l h _ => ⟨l, by simpa using h, rfl⟩, fun j h => by omega, ?_, Int.le_refl _⟩
    rw [ptF_id]
    exact List.Perm.refl _
  | succ i ih =>
    intro hi
    obtain ⟨e, C, h1, h2, h3, h4, h5, h6⟩ := ih (by omega)
    have hfi := hf.1 i (by omega)
    have hal := alB_iff.1 hfi.2
    obtain ⟨s, hsk, hes⟩ := h3 (f i) hal fun j hj e => by have := hf.2 j i (by omega) (by omega) e; omega
    have hpt := ptF_pts hap hX (i := i) (by omega) h2
    have hr := hX i (by omega)
    have e1 := ptF_set (a := a) (X := X) (k := a.length) (e := e) (s := s) (l := a.length + i)
    rw [nth_app_right] at e1
    have hpt2 : Pts M.length (ptF a X a.length (updN e s (a.length + i))) := by rw [← e1]; exact hpt.set hr
    have hv : ∀ t, updN e s (a.length + i) t = if t = s then a.length + i else e t := fun _ => rfl
    refine ⟨updN e s (a.length + i), C ++ [sortL (ptF a X a.length (updN e s (a.length + i)))], by simp [h1], fun t ht => ?_, fun l hl2 hne => ?_, fun j hj => ?_, ?_, ?_⟩
    · rw [hv]
      have := h2 t ht
      split <;> omega
    · by_cases e2 : l = a.length + i
      · exact ⟨s, hsk, by rw [hv, if_pos rfl, e2]⟩
      · obtain ⟨t, ht, het⟩ := h3 l (by omega) fun j hj => hne j (by omega)
        refine ⟨t, ht, ?_⟩
        rw [hv, if_neg, het]
        intro e3
        rw [e3, hes] at het
        exact hne i (by omega) het
    · by_cases e2 : j = i
      · subst e2
        have hrl : row (C ++ [sortL (ptF a X a.length (updN e s (a.length + j)))]) j = sortL (ptF a X a.length (updN e s (a.length + j))) := by
          have h := row_last (C := C) (x := sortL (ptF a X a.length (updN e s (a.length + j))))
          rw [h1] at h
          exact h
        rw [hrl]
        refine ⟨srt_conf (ptF_len _ _ _ _) hpt2, (sortL_perm _).mem_iff.2 ?_⟩
        have hm := nth_mem (xs := ptF a X a.length (updN e s (a.length + j))) (k := s) (by rw [ptF_len]; exact hsk)
        rw [ptF_at hsk, hv, if_pos rfl, nth_app_right] at hm
        exact hm
      · rw [row_app (by omega)]
        exact h4 j (by omega)
    · rw [scP_succ, ← h1, row_last]
      exact sortL_perm _
    · have g1 := scTo_congr (M := M) (a := a) (C := C ++ [sortL (ptF a X a.length (updN e s (a.length + i)))]) (D := C) (i := i) fun j hj => row_app (by omega)
      have g2 : scP a (C ++ [sortL (ptF a X a.length (updN e s (a.length + i)))]) i = scP a C i := by
        unfold scP
        by_cases e : i = 0
        · rw [if_pos e, if_pos e]
        · rw [if_neg e, if_neg e]; exact row_app (by omega)
      have g3 : row (C ++ [sortL (ptF a X a.length (updN e s (a.length + i)))]) i = sortL (ptF a X a.length (updN e s (a.length + i))) := by rw [← h1]; exact row_last
      have g4 : mvC M (scP a C i) (sortL (ptF a X a.length (updN e s (a.length + i)))) ≤ flC M a X i (f i) := by
        rw [mvC_permL hd h5.symm hpt ((hpt2).perm (sortL_perm _)) (by rw [sortL_len, ptF_len, ptF_len]) (by rw [ptF_len]; omega)]
        rw [mvC_permR hd (sortL_perm _).symm hpt hpt2 (by rw [ptF_len, ptF_len]) (by rw [ptF_len]; omega), ← e1]
        have h := mvC_set hd hpt hr (s := s) (by rw [ptF_len]; exact hsk) (by rw [ptF_len]; omega)
        rw [ptF_at hsk, hes] at h
        unfold flC
        rw [if_pos hal]
        exact h
      simp only [scTo, sgTo]
      rw [g1, g2, g3]
      omega
theorem chain_ge {M : List (List Int)} {a X : List Int} (hs : srvB M a X = true) {f : Nat → Nat} (hf : Mtc (Al a.length) X.length (a.length + X.length) f) : lwR M a X ≤ mcost (flC M a X) f X.length := by
  obtain ⟨e, C, h1, _, _, h4, _, h6⟩ := chain_sched hs hf X.length (Nat.le_refl _)
  obtain ⟨hd, hk, ha, hX, hl⟩ := srv_all hs
  have hB : smB M a X C = true := smB_iff.2 ⟨hs, h1, fun i hi => by
    obtain ⟨g1, g2⟩ := h4 i (by omega)
    obtain ⟨g3, g4, g5⟩ := confs_iff.1 g1
    refine smOk_iff.2 ⟨cfgB_iff.2 ⟨by rw [g3]; exact hk, (conf_pts g1).2, g4⟩, g3, hasB_true.2 g2⟩⟩
  have h := least_le hB
  rw [smR, if_pos hB] at h
  exact Int.le_trans h h6
/-- a schedule gives a chain list that costs no more -/
theorem sched_chain {M : List (List Int)} {a X : List Int} {C : List (List Int)} (hB : smB M a X C = true) :
    ∀ i, i ≤ X.length → ∃ (f e : Nat → Nat) (p : List Int), (∀ j, j < i → alB a.length j (f j) = true) ∧ (∀ j j', j < i → j' < i → f j = f j' → j = j') ∧ (∀ s, s < a.length → e s < a.length + i ∧ ∀ j, j < i → f j ≠ e s) ∧ (∀ s t, s < a.length → t < a.length → e s = e t → s = t) ∧
      p.Perm (scP a C i) ∧ sgTo (fun j => flC M a X j (f j)) i + costL M (ptF a X a.length e) p ≤ scTo M a C i := by
  obtain ⟨hs, hCl, hok⟩ := smB_iff.1 hB
  obtain ⟨hd, hk, ha, hX, hl⟩ := srv_all hs
  have hap := (conf_pts ha).2
  have hsc : ∀ i, i ≤ X.length → (scP a C i).length = a.length ∧ Pts M.length (scP a C i) := fun i hi => by
    unfold scP
    by_cases e : i = 0
    · rw [if_pos e]; exact ⟨rfl, hap⟩
    · rw [if_neg e]
      obtain ⟨g1, g2, _⟩ := smOk_iff.1 (hok (i - 1) (by omega))
      exact ⟨g2, (cfgB_iff.1 g1).2.1⟩
  intro i
  induction i with
  | zero =>
    intro _
    refine ⟨fun _ => 0, id, a, fun j h => by omega, fun j j' h => by omega, fun s h => ⟨by simpa using h, fun j h => by omega⟩, fun s t _ _ h => h, List.Perm.refl _, ?_⟩
    rw [ptF_id, costL_self (fun x hx => hd.self x hx) a hap]
    exact Int.le_refl _
  | succ i ih =>
    intro hi
    obtain ⟨f, e, p, h1, h2, h3, h4, h5, h6⟩ := ih (by omega)
    obtain ⟨q1, q2, q3⟩ := smOk_iff.1 (hok i (by omega))
    have hrow := (cfgB_iff.1 q1).2.1
    obtain ⟨s1, s2⟩ := hsc i (by omega)
    have hpp : Pts M.length p := s2.perm h5
    have hpl : p.length = a.length := by rw [h5.length_eq, s1]
    obtain ⟨⟨p', hp', hpc⟩, _⟩ := mvC_min hd hpp hrow (by rw [hpl, q2]) (by rw [hpl]; omega)
    have hp'p : Pts M.length p' := hrow.perm hp'
    have hp'l : p'.length = a.length := by rw [hp'.length_eq, q2]
    have hpt := ptF_pts hap hX (i := i) (by omega) fun s hs => (h3 s hs).1
    have hr := hX i (by omega)
    have htri := costL_tri hd.tri (ptF a X a.length e) p p' (by rw [ptF_len, hpl]) (by rw [hpl, hp'l]) hpt hpp hp'p
    have hmv : mvC M p (row C i) = mvC M (scP a C i) (row C i) := mvC_permL hd h5.symm s2 hrow (by rw [s1, q2]) (by rw [s1]; omega)
    have hmem : nth X i ∈ p' := hp'.mem_iff.2 (hasB_true.1 q3)
    obtain ⟨s, hsl, hse⟩ := List.getElem_of_mem hmem
    have hsk : s < a.length := by omega
    have hse' : nth p' s = nth X i := by simp [nth, hsl, hse]
    have hset := costL_set hd hpt hp'p (by rw [ptF_len, hp'l]) (s := s) (r := nth X i) (by rw [ptF_len]; exact hsk) hse'
    have e1 := ptF_set (a := a) (X := X) (k := a.length) (e := e) (s := s) (l := a.length + i)
    rw [nth_app_right] at e1
    rw [e1, ptF_at hsk] at hset
    have hes := h3 s hsk
    have hfl : flC M a X i (e s) = cell M (nth (a ++ X) (e s)).toNat (nth X i).toNat := by unfold flC; rw [if_pos hes.1]
    have hv : ∀ t, updN f i (e s) t = if t = i then e s else f t := fun _ => rfl
    have hv2 : ∀ t, updN e s (a.length + i) t = if t = s then a.length + i else e t := fun _ => rfl
    refine ⟨updN f i (e s), updN e s (a.length + i), p', fun j hj => ?_, fun j j' hj hj' he => ?_, fun t ht => ?_, fun t u ht hu he => ?_, ?_, ?_⟩
    · rw [hv]
      by_cases e2 : j = i
      · rw [if_pos e2, e2]; exact alB_iff.2 hes.1
      · rw [if_neg e2]; exact h1 j (by omega)
    · rw [hv, hv] at he
      by_cases e2 : j = i
      · rw [if_pos e2] at he
        by_cases e3 : j' = i
        · rw [e2, e3]
        · rw [if_neg e3] at he
          exact absurd he.symm (hes.2 j' (by omega))
      · rw [if_neg e2] at he
        by_cases e3 : j' = i
        · rw [if_pos e3] at he
          exact absurd he (hes.2 j (by omega))
        · rw [if_neg e3] at he
          exact h2 j j' (by omega) (by omega) he
    · rw [hv2]
      by_cases e2 : t = s
      · rw [if_pos e2]
        refine ⟨by omega, fun j hj => ?_⟩
        rw [hv]
        by_cases e3 : j = i
        · rw [if_pos e3]; omega
        · rw [if_neg e3]
          have := alB_iff.1 (h1 j (by omega))
          omega
      · rw [if_neg e2]
        have ht2 := h3 t ht
        refine ⟨by omega, fun j hj => ?_⟩
        rw [hv]
        by_cases e3 : j = i
        · rw [if_pos e3]
          exact fun h => e2 (h4 s t hsk ht h).symm
        · rw [if_neg e3]; exact ht2.2 j (by omega)
    · rw [hv2, hv2] at he
      by_cases e2 : t = s
      · rw [if_pos e2] at he
        by_cases e3 : u = s
        · rw [e2, e3]
        · rw [if_neg e3] at he
          have := (h3 u hu).1
          omega
      · rw [if_neg e2] at he
        by_cases e3 : u = s
        · rw [if_pos e3] at he
          have := (h3 t ht).1
          omega
        · rw [if_neg e3] at he
          exact h4 t u ht hu he
    · rw [scP_succ]; exact hp'
    · have g1 : sgTo (fun j => flC M a X j (updN f i (e s) j)) (i + 1) = sgTo (fun j => flC M a X j (f j)) i + flC M a X i (e s) := by
        have g2 : sgTo (fun j => flC M a X j (updN f i (e s) j)) i = sgTo (fun j => flC M a X j (f j)) i := sgTo_congr fun j hj => by rw [hv, if_neg (by omega)]
        rw [sgTo, g2, hv, if_pos rfl]
      rw [g1, scTo, hfl]
      rw [hmv] at hpc
      omega
theorem chain_le {M : List (List Int)} {a X : List Int} (hs : srvB M a X = true) : ∃ f, Mtc (Al a.length) X.length (a.length + X.length) f ∧ mcost (flC M a X) f X.length ≤ lwR M a X := by
  obtain ⟨hB, _⟩ := ls_sched hs
  have h0 := ls_least hs
  obtain ⟨hd, hk, ha, hX, hl⟩ := srv_all hs
  obtain ⟨f, e, p, h1, h2, h3, h4, h5, h6⟩ := sched_chain hB X.length (Nat.le_refl _)
  rw [smR, if_pos hB] at h0
  refine ⟨f, ⟨fun i hi => ⟨by have := alB_iff.1 (h1 i hi); omega, h1 i hi⟩, h2⟩, ?_⟩
  have hpt := ptF_pts (conf_pts ha).2 hX (i := X.length) (Nat.le_refl _) fun s hs => (h3 s hs).1
  have hpp : Pts M.length p := by
    refine Pts.perm ?_ h5
    unfold scP
    by_cases e : X.length = 0
    · rw [if_pos e]; exact (conf_pts ha).2
    · rw [if_neg e]
      obtain ⟨_, g, hok⟩ := smB_iff.1 hB
      exact (cfgB_iff.1 (smOk_iff.1 (hok (X.length - 1) (by omega))).1).2.1
  have hn := costL_nonneg (fun x y hx hy => (hd.pos x y hx hy).1) (ptF a X a.length e) p hpt hpp
  unfold mcost
  omega
/-- the least cost of the chain lists is that of the schedules -/
theorem chain_least {M : List (List Int)} {a X : List Int} (hs : srvB M a X = true) {f : Nat → Nat} {p q : Nat → Int} (hf : Mtc (Al a.length) X.length (a.length + X.length) f) (hc : Cert (Al a.length) (flC M a X) X.length (a.length + X.length) f p q) :
    mcost (flC M a X) f X.length = lwR M a X := by
  have h1 := chain_ge hs hf
  obtain ⟨g, hg, h2⟩ := chain_le hs
  have h3 := hc.opt hf hg
  omega
end Go.Proofs.Ytcfhmbmagkoekaa
