/- Several texts in one: RunP GrP CrQ ExP OpP. -/
import Derived.Test.YtcfhmbmagkoekaaSvS
import Derived.Test.YtcfhmbmagkoekaaGrH
/- Plain law: runs of the work function algorithm, cruel requests. -/
namespace Go.Proofs.Ytcfhmbmagkoekaa
open Go.RowKit

--PURE
/-- the work list of the empty sequence -/
def wst (M P : List (List Int)) (a : List Int) : List Int := P.map fun b => mvC M a b
/-- the work lists after the first requests -/
def wlAt (M P : List (List Int)) (a X : List Int) : Nat → List Int
  | 0 => wst M P a
  | i + 1 => wnxL M P (wlAt M P a X i) (nth X i)
def wlL (M P : List (List Int)) (a X : List Int) (n : Nat) : List (List Int) := (List.range (n + 1)).map (wlAt M P a X)
theorem wlL_succ {M P : List (List Int)} {a X : List Int} {n : Nat} : wlL M P a X (n + 1) = wlL M P a X n ++ [wlAt M P a X (n + 1)] := by
  rw [wlL, List.range_succ, List.map_append]
  rfl
theorem wlL_len {M P : List (List Int)} {a X : List Int} {n : Nat} : (wlL M P a X n).length = n + 1 := by simp [wlL]
theorem wlL_row {M P : List (List Int)} {a X : List Int} {n i : Nat} (h : i ≤ n) : row (wlL M P a X n) i = wlAt M P a X i := by simp [wlL, row, show i < n + 1 by omega]
theorem wl_good {M : List (List Int)} {n k : Nat} {a X : List Int} (hd : Dst M n) (h1 : 1 ≤ k) (hk : k ≤ 3) (ha : a ∈ confs n k 0) (hX : ∀ j, j < X.length → 0 ≤ nth X j ∧ nth X j < (n : Int)) (hl : X.length ≤ 1000) :
    ∀ i, i ≤ X.length → GoodW M (confs n k 0) (wlAt M (confs n k 0) a X i) (297 + 198 * i) := by
  intro i
  induction i with
  | zero => intro _; exact start_good hd hk ha
  | succ i ih =>
    intro hi
    have h := (wnx_good hd h1 hk (ih (by omega)) (by omega) (hX i (by omega))).1
    refine h.mono ?_
    omega
/-- where the algorithm is, and what it has paid -/
def rnA (M P : List (List Int)) (a X : List Int) : Nat → List Int
  | 0 => a
  | i + 1 => svC M P (wlAt M P a X (i + 1)) (rnA M P a X i) (nth X i)
def rnS (M P : List (List Int)) (a X : List Int) : Nat → Int
  | 0 => 0
  | i + 1 => rnS M P a X i + svK M P (wlAt M P a X (i + 1)) (rnA M P a X i) (nth X i)
def rnT (M P : List (List Int)) (a X : List Int) (n : Nat) : List (List Int) := (List.range n).map fun i => rnA M P a X (i + 1)
theorem rnT_succ {M P : List (List Int)} {a X : List Int} {n : Nat} : rnT M P a X (n + 1) = rnT M P a X n ++ [rnA M P a X (n + 1)] := by
  rw [rnT, List.range_succ, List.map_append]
  rfl
theorem rnT_len {M P : List (List Int)} {a X : List Int} {n : Nat} : (rnT M P a X n).length = n := by simp [rnT]
theorem rn_conf {M : List (List Int)} {n k : Nat} {a X : List Int} (hd : Dst M n) (h1 : 1 ≤ k) (hk : k ≤ 3) (ha : a ∈ confs n k 0) (hX : ∀ j, j < X.length → 0 ≤ nth X j ∧ nth X j < (n : Int)) (hl : X.length ≤ 1000) :
    ∀ i, i ≤ X.length → rnA M (confs n k 0) a X i ∈ confs n k 0 ∧ 0 ≤ rnS M (confs n k 0) a X i ∧ rnS M (confs n k 0) a X i ≤ 99 * i := by
  intro i
  induction i with
  | zero => intro _; exact ⟨ha, by simp [rnS], by simp [rnS]⟩
  | succ i ih =>
    intro hi
    obtain ⟨h2, h3, h4⟩ := ih (by omega)
    obtain ⟨h5, _, h6, h7⟩ := sv_conf hd h1 (wl_good hd h1 hk ha hX hl (i + 1) hi) (by omega) h2 (hX i (by omega))
    refine ⟨h5, ?_, ?_⟩
    · rw [rnS]; omega
    · rw [rnS]; omega
theorem rnT_mem {M : List (List Int)} {n k : Nat} {a X : List Int} (hd : Dst M n) (h1 : 1 ≤ k) (hk : k ≤ 3) (ha : a ∈ confs n k 0) (hX : ∀ j, j < X.length → 0 ≤ nth X j ∧ nth X j < (n : Int)) (hl : X.length ≤ 1000) {i : Nat} (hi : i ≤ X.length) :
    ∀ r ∈ rnT M (confs n k 0) a X i, r ∈ confs n k 0 := by
  intro r hr
  obtain ⟨j, hj, rfl⟩ := List.mem_map.1 hr
  have := List.mem_range.1 hj
  exact (rn_conf hd h1 hk ha hX hl (j + 1) (by omega)).1

/-- the least number that is not in a list, as far as m -/
def misTo (l : List Int) : Nat → Nat → Nat
  | 0, r => r
  | m + 1, r => if (r : Int) ∈ l then misTo l m (r + 1) else r
theorem misTo_spec {l : List Int} : ∀ (m r : Nat), (∀ j, r ≤ j → j < misTo l m r → (j : Int) ∈ l) ∧ r ≤ misTo l m r ∧ misTo l m r ≤ r + m ∧ ((misTo l m r : Int) ∈ l → misTo l m r = r + m)
  | 0, r => ⟨fun j h1 h2 => by simp only [misTo] at h2; omega, Nat.le_refl _, Nat.le_refl _, fun _ => rfl⟩
  | m + 1, r => by
    rw [misTo]
    split
    · rename_i hr
      obtain ⟨h1, h2, h3, h4⟩ := misTo_spec (l := l) m (r + 1)
      refine ⟨fun j hj hj2 => ?_, by omega, by omega, fun h => by have := h4 h; omega⟩
      by_cases e : j = r
      · rw [e]; exact hr
      · exact h1 j (by omega) hj2
    · rename_i hr
      exact ⟨fun j h1 h2 => by omega, Nat.le_refl _, by omega, fun h => absurd h hr⟩
/-- the least number that is not in a list -/
def misL (l : List Int) : Nat := misTo l (l.length + 1) 0
theorem mis_in {l : List Int} {j : Nat} (h : j < misL l) : (j : Int) ∈ l := (misTo_spec (l.length + 1) 0).1 j (by omega) h
theorem mis_pig : ∀ {l : List Int} {n : Nat}, (∀ j, j < n → (j : Int) ∈ l) → n ≤ l.length := by
  intro l n h
  have h1 : ((List.range n).map fun i : Nat => (i : Int)).Nodup := idL_nodup n
  have h2 : ∀ x ∈ (List.range n).map (fun i : Nat => (i : Int)), x ∈ l := by
    intro x hx
    obtain ⟨i, hi, rfl⟩ := List.mem_map.1 hx
    exact h i (List.mem_range.1 hi)
  by_cases hc : n ≤ l.length
  · exact hc
  · have hp := perm_of_sub (l := (List.range (l.length + 1)).map fun i : Nat => (i : Int)) (m := l) (idL_nodup _) (fun x hx => by
      obtain ⟨i, hi, rfl⟩ := List.mem_map.1 hx
      exact h i (by have := List.mem_range.1 hi; omega)) (by simp)
    have := hp.length_eq
    simp at this
theorem mis_le {l : List Int} : misL l ≤ l.length := mis_pig fun _ hj => mis_in hj
theorem mis_not {l : List Int} : (misL l : Int) ∉ l := by
  intro h
  have h1 := (misTo_spec (l := l) (l.length + 1) 0).2.2.2 h
  have h2 := mis_le (l := l)
  unfold misL at h2
  omega
/-- cruel requests: where the algorithm is, its work list -/
def crT (M P : List (List Int)) (a : List Int) : Nat → List Int × List Int
  | 0 => (a, wst M P a)
  | i + 1 => (svC M P (wnxL M P (crT M P a i).2 (misL (crT M P a i).1)) (crT M P a i).1 (misL (crT M P a i).1), wnxL M P (crT M P a i).2 (misL (crT M P a i).1))
def crL (M P : List (List Int)) (a : List Int) (n : Nat) : List Int := (List.range n).map fun i => ((misL (crT M P a i).1 : Nat) : Int)
theorem crL_succ {M P : List (List Int)} {a : List Int} {n : Nat} : crL M P a (n + 1) = crL M P a n ++ [((misL (crT M P a n).1 : Nat) : Int)] := by
  rw [crL, List.range_succ, List.map_append]
  rfl
theorem crL_len {M P : List (List Int)} {a : List Int} {n : Nat} : (crL M P a n).length = n := by simp [crL]
theorem cr_good {M : List (List Int)} {n k : Nat} {a : List Int} (hd : Dst M n) (h1 : 1 ≤ k) (hk : k ≤ 3) (hkn : k < n) (ha : a ∈ confs n k 0) :
    ∀ i, i ≤ 1000 → (crT M (confs n k 0) a i).1 ∈ confs n k 0 ∧ GoodW M (confs n k 0) (crT M (confs n k 0) a i).2 (297 + 198 * i) := by
  intro i
  induction i with
  | zero => intro _; exact ⟨ha, start_good hd hk ha⟩
  | succ i ih =>
    intro hi
    obtain ⟨h2, h3⟩ := ih (by omega)
    have hr : 0 ≤ ((misL (crT M (confs n k 0) a i).1 : Nat) : Int) ∧ ((misL (crT M (confs n k 0) a i).1 : Nat) : Int) < (n : Int) := by
      have := mis_le (l := (crT M (confs n k 0) a i).1)
      have := (confs_iff.1 h2).1
      omega
    have hg := (wnx_good hd h1 hk h3 (by omega) hr).1
    exact ⟨(sv_conf hd h1 hg (by omega) h2 hr).1, hg.mono (by omega)⟩
theorem cr_mis {M : List (List Int)} {n k : Nat} {a : List Int} (hd : Dst M n) (h1 : 1 ≤ k) (hk : k ≤ 3) (hkn : k < n) (ha : a ∈ confs n k 0) {i : Nat} (hi : i ≤ 1000) : misL (crT M (confs n k 0) a i).1 < n := by
  have := mis_le (l := (crT M (confs n k 0) a i).1)
  have := (confs_iff.1 (cr_good hd h1 hk hkn ha i hi).1).1
  omega
end Go.Proofs.Ytcfhmbmagkoekaa

/- Plain law: schedules of servers, the greedy one, the least cost. -/
namespace Go.Proofs.Ytcfhmbmagkoekaa
open Go.RowKit

--PURE
/-- where a schedule is ahead of a request -/
def scP (a : List Int) (C : List (List Int)) (i : Nat) : List Int := if i = 0 then a else row C (i - 1)
theorem scP_zero (a : List Int) (C : List (List Int)) : scP a C 0 = a := rfl
theorem scP_succ (a : List Int) (C : List (List Int)) (i : Nat) : scP a C (i + 1) = row C i := by simp [scP]
def scTo (M : List (List Int)) (a : List Int) (C : List (List Int)) : Nat → Int
  | 0 => 0
  | i + 1 => scTo M a C i + mvC M (scP a C i) (row C i)
def smOk (M : List (List Int)) (a X : List Int) (C : List (List Int)) (i : Nat) : Bool := cfgB M.length (row C i) && (decide ((row C i).length = a.length) && hasB (row C i) (nth X i))
def smB (M : List (List Int)) (a X : List Int) (C : List (List Int)) : Bool := srvB M a X && (decide (C.length = X.length) && decide (∀ i, i < C.length → smOk M a X C i = true))
def smR (M : List (List Int)) (a X : List Int) (C : List (List Int)) : Int := if smB M a X C then scTo M a C X.length else 0
theorem smOk_iff {M : List (List Int)} {a X : List Int} {C : List (List Int)} {i : Nat} : smOk M a X C i = true ↔ cfgB M.length (row C i) = true ∧ (row C i).length = a.length ∧ hasB (row C i) (nth X i) = true := by simp [smOk]
theorem smB_iff {M : List (List Int)} {a X : List Int} {C : List (List Int)} : smB M a X C = true ↔ srvB M a X = true ∧ C.length = X.length ∧ ∀ i, i < C.length → smOk M a X C i = true := by simp [smB]
theorem cfg_confs {n : Nat} {a : List Int} (h : cfgB n a = true) : a ∈ confs n a.length 0 := by
  obtain ⟨h1, h2, h3⟩ := cfgB_iff.1 h
  exact confs_iff.2 ⟨rfl, h3, fun x hx => by have := h2 x hx; omega⟩
theorem srv_all {M : List (List Int)} {a X : List Int} (h : srvB M a X = true) : Dst M M.length ∧ (1 ≤ a.length ∧ a.length ≤ 3) ∧ a ∈ confs M.length a.length 0 ∧ (∀ j, j < X.length → 0 ≤ nth X j ∧ nth X j < (M.length : Int)) ∧ X.length ≤ 60 := by
  obtain ⟨h1, h2, h3, h4⟩ := srvB_iff.1 h
  exact ⟨dst_of_met h1, (cfgB_iff.1 h2).1, cfg_confs h2, fun j hj => belowB_at h4 hj, h3⟩
theorem scP_mem {M : List (List Int)} {a X : List Int} {C : List (List Int)} (h : smB M a X C = true) {i : Nat} (hi : i ≤ C.length) : scP a C i ∈ confs M.length a.length 0 := by
  obtain ⟨h1, h2, h3⟩ := smB_iff.1 h
  cases i with
  | zero => exact (srv_all h1).2.2.1
  | succ i =>
    rw [scP_succ]
    obtain ⟨h4, h5, _⟩ := smOk_iff.1 (h3 i (by omega))
    rw [← h5]
    exact cfg_confs h4
theorem conf_pts {n k : Nat} {c : List Int} (h : c ∈ confs n k 0) : c.length = k ∧ Pts n c := by
  obtain ⟨h1, _, h3⟩ := confs_iff.1 h
  exact ⟨h1, fun x hx => by have := h3 x hx; omega⟩
theorem mv_confs {M : List (List Int)} {k : Nat} {a b : List Int} (hd : Dst M M.length) (hk : k ≤ 3) (ha : a ∈ confs M.length k 0) (hb : b ∈ confs M.length k 0) : 0 ≤ mvC M a b ∧ mvC M a b ≤ 297 ∧ mvC M b a = mvC M a b := by
  obtain ⟨h1, h2⟩ := conf_pts ha
  obtain ⟨h3, h4⟩ := conf_pts hb
  have := mvC_in hd h2 h4 (by rw [h1, h3]) (by omega)
  exact ⟨this.1, by omega, mvC_symm hd h2 h4 (by rw [h1, h3]) (by omega)⟩
theorem mv_self {M : List (List Int)} {k : Nat} {a : List Int} (hd : Dst M M.length) (hk : k ≤ 3) (ha : a ∈ confs M.length k 0) : mvC M a a = 0 := by
  obtain ⟨h1, h2⟩ := conf_pts ha
  exact (mvC_zero hd h2 h2 rfl (by omega)).2 (List.Perm.refl _)
theorem sc_in {M : List (List Int)} {a X : List Int} {C : List (List Int)} (h : smB M a X C = true) : ∀ i, i ≤ C.length → 0 ≤ scTo M a C i ∧ scTo M a C i ≤ 297 * i := by
  obtain ⟨h1, h2, h3⟩ := smB_iff.1 h
  obtain ⟨hd, hk, _⟩ := srv_all h1
  intro i
  induction i with
  | zero => intro _; simp [scTo]
  | succ i ih =>
    intro hi
    have h4 := ih (by omega)
    have h5 := scP_mem h (i := i + 1) hi
    rw [scP_succ] at h5
    have := mv_confs hd hk.2 (scP_mem h (i := i) (by omega)) h5
    rw [scTo]
    omega
/-- the work list never asks more than a schedule has paid -/
theorem wl_sched {M : List (List Int)} {a X : List Int} {C : List (List Int)} (h : smB M a X C = true) : ∀ i, i ≤ C.length → nth (wlAt M (confs M.length a.length 0) a X i) (atR (confs M.length a.length 0) (scP a C i)) ≤ scTo M a C i := by
  obtain ⟨h1, h2, h3⟩ := smB_iff.1 h
  obtain ⟨hd, hk, ha, hX, hl⟩ := srv_all h1
  have hw := wl_good hd hk.1 hk.2 ha hX (by omega)
  intro i
  induction i with
  | zero =>
    intro _
    obtain ⟨g1, g2⟩ := atR_lt ha
    rw [scP_zero, wlAt, wst, scTo]
    have : nth ((confs M.length a.length 0).map fun b => mvC M a b) (atR (confs M.length a.length 0) a) = mvC M a a := by
      have hn : ∀ j, j < (confs M.length a.length 0).length → nth ((confs M.length a.length 0).map fun b => mvC M a b) j = mvC M a (row (confs M.length a.length 0) j) := fun j hj => by simp [nth, row, hj]
      rw [hn _ g1, g2]
    rw [this, mv_self hd hk.2 ha]
    exact Int.le_refl _
  | succ i ih =>
    intro hi
    have hp := scP_mem h (i := i) (by omega)
    have hq := scP_mem h (i := i + 1) hi
    have h6 := ih (by omega)
    rw [scP_succ] at hq ⊢
    obtain ⟨g1, g2⟩ := atR_lt hp
    obtain ⟨f1, f2⟩ := atR_lt hq
    obtain ⟨_, _, h9⟩ := smOk_iff.1 (h3 i (by omega))
    have hg := hw i (by omega)
    have hway := (wnx_way hd hk.1 hk.2 hg (by omega) f1 (hX i (by omega))).1 _ f1 (by rw [f2]; exact hasB_true.1 h9)
    have hlip := hg.1.2 _ _ f1 g1
    rw [f2, g2] at hlip
    have hsy := (mv_confs hd hk.2 hp hq).2.2
    have hself := mv_self hd hk.2 hq
    rw [viS, f2, hself] at hway
    rw [wlAt, wnx_at (by rw [hg.1.1]; exact f1), scTo]
    omega
/-- the least cost -/
def lwR (M : List (List Int)) (a X : List Int) : Int := if srvB M a X then leastL (wlAt M (confs M.length a.length 0) a X X.length) else 0
theorem wl_ne {M : List (List Int)} {a X : List Int} (h : srvB M a X = true) {i : Nat} (hi : i ≤ X.length) : wlAt M (confs M.length a.length 0) a X i ≠ [] := by
  obtain ⟨hd, hk, ha, hX, hl⟩ := srv_all h
  have hw := wl_good hd hk.1 hk.2 ha hX (by omega) i hi
  have := (atR_lt ha).1
  intro e
  have h1 := hw.1.1
  rw [e] at h1
  simp at h1
  omega
theorem least_in {M : List (List Int)} {a X : List Int} (h : srvB M a X = true) : 0 ≤ lwR M a X ∧ lwR M a X ≤ 297 + 198 * 60 := by
  obtain ⟨hd, hk, ha, hX, hl⟩ := srv_all h
  have hw := wl_good hd hk.1 hk.2 ha hX (by omega) X.length (Nat.le_refl _)
  rw [lwR, if_pos h]
  obtain ⟨⟨s, hs, e⟩, _⟩ := leastL_min (wl_ne h (Nat.le_refl _))
  obtain ⟨j, hj, rfl⟩ := mem_iff_nth.1 hs
  rw [hw.1.1] at hj
  have := hw.2 j hj
  have e' : leastL (wlAt M (confs M.length a.length 0) a X X.length) = nth (wlAt M (confs M.length a.length 0) a X X.length) j := e
  omega
theorem least_le {M : List (List Int)} {a X : List Int} {C : List (List Int)} (h : smB M a X C = true) : lwR M a X ≤ smR M a X C := by
  obtain ⟨h1, h2, h3⟩ := smB_iff.1 h
  obtain ⟨hd, hk, ha, hX, hl⟩ := srv_all h1
  have hw := wl_good hd hk.1 hk.2 ha hX (by omega) X.length (Nat.le_refl _)
  rw [lwR, if_pos h1, smR, if_pos h]
  have hm := (leastL_min (wl_ne h1 (Nat.le_refl X.length))).2
  have h4 := wl_sched h X.length (by omega)
  have h5 := (atR_lt (scP_mem h (i := X.length) (by omega))).1
  have h6 := hm _ (nth_mem (show atR (confs M.length a.length 0) (scP a C X.length) < (wlAt M (confs M.length a.length 0) a X X.length).length by rw [hw.1.1]; exact h5))
  have h7 : leastL (wlAt M (confs M.length a.length 0) a X X.length) ≤ nth (wlAt M (confs M.length a.length 0) a X X.length) (atR (confs M.length a.length 0) (scP a C X.length)) := h6
  omega

/-! the greedy schedule -/
/-- the first of the nearest servers among the first j -/
def nearTo (M : List (List Int)) (a : List Int) (r : Int) : Nat → Nat
  | 0 => 0
  | j + 1 => if cell M (nth a j).toNat r.toNat < cell M (nth a (nearTo M a r j)).toNat r.toNat then j else nearTo M a r j
theorem near_spec {M : List (List Int)} {a : List Int} {r : Int} : ∀ j, j ≤ a.length → (nearTo M a r j = 0 ∨ nearTo M a r j < j) ∧ ∀ s, s < j → cell M (nth a (nearTo M a r j)).toNat r.toNat ≤ cell M (nth a s).toNat r.toNat := by
  intro j
  induction j with
  | zero => intro _; exact ⟨.inl rfl, fun s hs => by omega⟩
  | succ j ih =>
    intro hj
    obtain ⟨h1, h2⟩ := ih (by omega)
    rw [nearTo]
    split
    · rename_i h
      refine ⟨.inr (by omega), fun s hs => ?_⟩
      by_cases e : s = j
      · rw [e]; exact Int.le_refl _
      · have := h2 s (by omega); omega
    · rename_i h
      refine ⟨by omega, fun s hs => ?_⟩
      by_cases e : s = j
      · rw [e]; omega
      · exact h2 s (by omega)
def nearL (M : List (List Int)) (a : List Int) (r : Int) : Nat := nearTo M a r a.length
def grA (M : List (List Int)) (a X : List Int) : Nat → List Int
  | 0 => a
  | i + 1 => svX (grA M a X i) (nth X i) (nearL M (grA M a X i) (nth X i))
def grS (M : List (List Int)) (a X : List Int) : Nat → Int
  | 0 => 0
  | i + 1 => grS M a X i + cell M (nth (grA M a X i) (nearL M (grA M a X i) (nth X i))).toNat (nth X i).toNat
def grT (M : List (List Int)) (a X : List Int) (n : Nat) : List (List Int) := (List.range n).map fun i => grA M a X (i + 1)
theorem grT_succ {M : List (List Int)} {a X : List Int} {n : Nat} : grT M a X (n + 1) = grT M a X n ++ [grA M a X (n + 1)] := by
  rw [grT, List.range_succ, List.map_append]
  rfl
theorem grT_len {M : List (List Int)} {a X : List Int} {n : Nat} : (grT M a X n).length = n := by simp [grT]
theorem grT_row {M : List (List Int)} {a X : List Int} {n i : Nat} (h : i < n) : row (grT M a X n) i = grA M a X (i + 1) := by simp [grT, row, h]
theorem near_lt {M : List (List Int)} {a : List Int} {r : Int} (h : 1 ≤ a.length) : nearL M a r < a.length := by
  have := (near_spec (M := M) (a := a) (r := r) a.length (Nat.le_refl _)).1
  unfold nearL
  omega
theorem gr_conf {M : List (List Int)} {a X : List Int} (h : srvB M a X = true) : ∀ i, i ≤ X.length → grA M a X i ∈ confs M.length a.length 0 := by
  obtain ⟨hd, hk, ha, hX, hl⟩ := srv_all h
  intro i
  induction i with
  | zero => intro _; exact ha
  | succ i ih =>
    intro hi
    have h1 := ih (by omega)
    have h2 := (conf_pts h1).1
    have h3 := near_lt (M := M) (a := grA M a X i) (r := nth X i) (by omega)
    exact (set_conf h1 (by omega) (hX i (by omega))).1
/-- a greedy move costs what the nearest server moves -/
theorem gr_move {M : List (List Int)} {a X : List Int} (h : srvB M a X = true) {i : Nat} (hi : i < X.length) :
    mvC M (grA M a X i) (grA M a X (i + 1)) = cell M (nth (grA M a X i) (nearL M (grA M a X i) (nth X i))).toNat (nth X i).toNat ∧ nth X i ∈ grA M a X (i + 1) := by
  obtain ⟨hd, hk, ha, hX, hl⟩ := srv_all h
  have h1 := gr_conf h i (by omega)
  obtain ⟨h2, h3⟩ := conf_pts h1
  have hr := hX i hi
  have hn := near_lt (M := M) (a := grA M a X i) (r := nth X i) (by omega)
  obtain ⟨hm, hrm⟩ := set_conf (s := nearL M (grA M a X i) (nth X i)) h1 (by omega) hr
  have hmin := (near_spec (M := M) (a := grA M a X i) (r := nth X i) (grA M a X i).length (Nat.le_refl _)).2
  have e : grA M a X (i + 1) = svX (grA M a X i) (nth X i) (nearL M (grA M a X i) (nth X i)) := rfl
  rw [e]
  refine ⟨?_, hrm⟩
  generalize hg : grA M a X i = g at *
  generalize nth X i = r at *
  obtain ⟨h5, h6⟩ := conf_pts hm
  have hset := mvC_set hd (s := nearL M g r) (r := r) h3 hr hn (by omega)
  have hp := mvC_permR hd (sortL_perm (g.set (nearL M g r) r)).symm h3 (h3.set hr) (by simp) (by omega)
  obtain ⟨s, hs, hvia⟩ := mvC_via hd h3 h6 (by rw [h2, h5]) (by omega) hrm
  have h7 := hmin s hs
  have h8 := mvC_in hd (h3.set (s := s) hr) h6 (by rw [List.length_set, h2, h5]) (by rw [List.length_set]; omega)
  unfold svX at *
  unfold nearL at *
  omega
/-- the greedy schedule is a schedule, and its cost is that of its moves -/
theorem gr_sched {M : List (List Int)} {a X : List Int} (h : srvB M a X = true) : smB M a X (grT M a X X.length) = true ∧ smR M a X (grT M a X X.length) = grS M a X X.length := by
  have hB : smB M a X (grT M a X X.length) = true := by
    refine smB_iff.2 ⟨h, grT_len, fun i hi => ?_⟩
    rw [grT_len] at hi
    have h1 := gr_conf h (i + 1) (by omega)
    obtain ⟨h2, h3⟩ := conf_pts h1
    obtain ⟨_, h5, _⟩ := confs_iff.1 h1
    refine smOk_iff.2 ?_
    rw [grT_row hi]
    refine ⟨cfgB_iff.2 ⟨?_, h3, h5⟩, h2, hasB_true.2 (gr_move h hi).2⟩
    rw [h2]
    exact (srv_all h).2.1
  refine ⟨hB, ?_⟩
  rw [smR, if_pos hB]
  have key : ∀ i, i ≤ X.length → scTo M a (grT M a X X.length) i = grS M a X i ∧ scP a (grT M a X X.length) i = grA M a X i := by
    intro i
    induction i with
    | zero => intro _; exact ⟨rfl, rfl⟩
    | succ i ih =>
      intro hi
      obtain ⟨h1, h2⟩ := ih (by omega)
      have h3 := (gr_move h (i := i) (by omega)).1
      rw [scTo, h1, h2, grT_row (by omega), grS, scP_succ, grT_row (by omega)]
      exact ⟨by omega, rfl⟩
  exact (key _ (Nat.le_refl _)).1
theorem gr_in {M : List (List Int)} {a X : List Int} (h : srvB M a X = true) : ∀ i, i ≤ X.length → 0 ≤ grS M a X i ∧ grS M a X i ≤ 99 * i := by
  obtain ⟨hd, hk, ha, hX, hl⟩ := srv_all h
  intro i
  induction i with
  | zero => intro _; simp [grS]
  | succ i ih =>
    intro hi
    have h1 := ih (by omega)
    obtain ⟨h2, h3⟩ := conf_pts (gr_conf h i (by omega))
    have hn := near_lt (M := M) (a := grA M a X i) (r := nth X i) (by omega)
    have h4 := h3 _ (nth_mem hn)
    have h5 := hX i (by omega)
    have := hd.pos (nth (grA M a X i) (nearL M (grA M a X i) (nth X i))).toNat (nth X i).toNat (by omega) (by omega)
    rw [grS]
    omega
end Go.Proofs.Ytcfhmbmagkoekaa

/- Plain law: a cruel request is where the algorithm has no server, and costs. -/
namespace Go.Proofs.Ytcfhmbmagkoekaa
open Go.RowKit

--PURE
theorem crL_at {M P : List (List Int)} {a : List Int} {n i : Nat} (hi : i < n) : nth (crL M P a n) i = ((misL (crT M P a i).1 : Nat) : Int) := by simp [crL, nth, hi]
/-- the run on the cruel requests goes as they were made -/
theorem cr_run {M P : List (List Int)} {a : List Int} {n : Nat} : ∀ i, i ≤ n → rnA M P a (crL M P a n) i = (crT M P a i).1 ∧ wlAt M P a (crL M P a n) i = (crT M P a i).2 := by
  intro i
  induction i with
  | zero => intro _; exact ⟨rfl, rfl⟩
  | succ i ih =>
    intro hi
    obtain ⟨h1, h2⟩ := ih (by omega)
    have h3 := crL_at (M := M) (P := P) (a := a) (show i < n by omega)
    have h4 : wlAt M P a (crL M P a n) (i + 1) = (crT M P a (i + 1)).2 := by
      rw [wlAt, h2, h3]; rfl
    refine ⟨?_, h4⟩
    rw [rnA, h4, h1, h3]; rfl
theorem cr_not {M P : List (List Int)} {a : List Int} {n i : Nat} (hi : i < n) : nth (crL M P a n) i ∉ rnA M P a (crL M P a n) i := by
  rw [crL_at hi, (cr_run i (by omega)).1]
  exact mis_not
/-- serving from elsewhere costs -/
theorem sv_cost {M : List (List Int)} {n k : Nat} {r L : Int} {nx a : List Int} (hd : Dst M n) (h1k : 1 ≤ k) (hg : GoodW M (confs n k 0) nx L) (hL : L ≤ 2000000) (ha : a ∈ confs n k 0) (hr : 0 ≤ r ∧ r < (n : Int)) (hra : r ∉ a) :
    1 ≤ svK M (confs n k 0) nx a r := by
  obtain ⟨h1, h2, h3⟩ := confs_iff.1 ha
  have hh : hasB a r = false := by
    cases h : hasB a r with
    | false => rfl
    | true => exact absurd (hasB_true.1 h) hra
  rw [svK, hh]
  obtain ⟨t, ht, h4⟩ := svT_at (M := M) (P := confs n k 0) (nx := nx) (a := a) (r := r) (s := a.length) (fun t ht => by have := (svN_in hd hg ha (s := t) (by omega) hr).2; omega) (by omega)
  have hm := nth_mem ht
  have h7 := h3 _ hm
  have h8 := hd.pos (nth a t).toNat r.toNat (by omega) (by omega)
  have h9 := hd.zero (nth a t).toNat r.toNat (by omega) (by omega)
  simp only [h4]
  show 1 ≤ cell M (nth a t).toNat r.toNat
  by_cases hc : cell M (nth a t).toNat r.toNat = 0
  · have := h9 hc
    exact absurd (show r ∈ a by rw [show r = nth a t by omega]; exact hm) hra
  · omega
theorem cr_cost {M : List (List Int)} {n k : Nat} {a : List Int} (hd : Dst M n) (h1 : 1 ≤ k) (hk : k ≤ 3) (hkn : k < n) (ha : a ∈ confs n k 0) {q : Nat} (hq : q ≤ 1000) :
    ∀ i, i ≤ q → (i : Int) ≤ rnS M (confs n k 0) a (crL M (confs n k 0) a q) i := by
  intro i
  induction i with
  | zero => intro _; simp [rnS]
  | succ i ih =>
    intro hi
    have h := ih (by omega)
    have h2 := cr_run (M := M) (P := confs n k 0) (a := a) (n := q) i (by omega)
    have h3 := cr_run (M := M) (P := confs n k 0) (a := a) (n := q) (i + 1) hi
    have h4 := crL_at (M := M) (P := confs n k 0) (a := a) (show i < q by omega)
    have h5 := cr_good hd h1 hk hkn ha i (by omega)
    have h6 := cr_good hd h1 hk hkn ha (i + 1) (by omega)
    have h7 := cr_mis hd h1 hk hkn ha (i := i) (by omega)
    have h8 := sv_cost (r := ((misL (crT M (confs n k 0) a i).1 : Nat) : Int)) hd h1 h6.2 (by omega) h5.1 (by omega) mis_not
    rw [rnS, h3.2, h2.1, h4]
    omega
end Go.Proofs.Ytcfhmbmagkoekaa

/- Plain law of exchanges between two configurations. -/
namespace Go.Proofs.Ytcfhmbmagkoekaa
open Go.RowKit

--PURE
/-- the values behind an exchange of the s-th point of x and the t-th of y -/
def exS (P : List (List Int)) (ws x y : List Int) (s t : Nat) : Int := nth ws (atR P (svX x (nth y t) s)) + nth ws (atR P (svX y (nth x s) t))
/-- whether the s-th point of x can be exchanged -/
def exOk (P : List (List Int)) (ws x y : List Int) (s : Nat) : Bool := decide (∃ t, t < y.length ∧ exS P ws x y s t ≤ nth ws (atR P x) + nth ws (atR P y))
theorem exOk_yes {P : List (List Int)} {ws x y : List Int} {s t : Nat} (ht : t < y.length) (h : exS P ws x y s t ≤ nth ws (atR P x) + nth ws (atR P y)) : exOk P ws x y s = true := decide_eq_true ⟨t, ht, h⟩
theorem exOk_no {P : List (List Int)} {ws x y : List Int} {s : Nat} (h : ∀ t, t < y.length → ¬ exS P ws x y s t ≤ nth ws (atR P x) + nth ws (atR P y)) : exOk P ws x y s = false := decide_eq_false fun ⟨t, ht, h'⟩ => h t ht h'
/-- the first hit below n -/
def fstTo {β : Type} (f : Nat → Option β) : Nat → Option β
  | 0 => none
  | n + 1 => match fstTo f n with
    | some b => some b
    | none => f n
theorem fst_none {β : Type} {f : Nat → Option β} : ∀ {n : Nat}, (∀ i, i < n → f i = none) → fstTo f n = none
  | 0, _ => rfl
  | n + 1, h => by
    rw [fstTo, fst_none (n := n) fun i hi => h i (by omega)]
    exact h n (by omega)
theorem fst_at {β : Type} {f : Nat → Option β} {i : Nat} {b : β} (h : ∀ j, j < i → f j = none) (hb : f i = some b) : ∀ {n : Nat}, i < n → fstTo f n = some b
  | 0, hn => by omega
  | n + 1, hn => by
    rw [fstTo]
    by_cases e : i = n
    · rw [← e, fst_none h]
      exact hb
    · rw [fst_at h hb (n := n) (by omega)]
def exS3 (P : List (List Int)) (ws : List Int) (i j s : Nat) : Option (Nat × Nat × Nat) := if exOk P ws (row P i) (row P j) s then none else some (i, j, s)
def exS2 (P : List (List Int)) (ws : List Int) (k i j : Nat) : Option (Nat × Nat × Nat) := fstTo (exS3 P ws i j) k
def exS1 (P : List (List Int)) (ws : List Int) (k i : Nat) : Option (Nat × Nat × Nat) := fstTo (exS2 P ws k i) P.length
def exR (P : List (List Int)) (ws : List Int) (k : Nat) : Option (Nat × Nat × Nat) := fstTo (exS1 P ws k) P.length
theorem exS3_ok {P : List (List Int)} {ws : List Int} {i j s : Nat} (h : exOk P ws (row P i) (row P j) s = true) : exS3 P ws i j s = none := by rw [exS3, h]; rfl
theorem exR_hit {P : List (List Int)} {ws : List Int} {k i j s : Nat} (h1 : ∀ q, q < i → exS1 P ws k q = none) (h2 : ∀ q, q < j → exS2 P ws k i q = none) (h3 : ∀ q, q < s → exS3 P ws i j q = none) (hi : i < P.length) (hj : j < P.length) (hs : s < k) (h : exOk P ws (row P i) (row P j) s = false) : exR P ws k = some (i, j, s) :=
  fst_at h1 (fst_at h2 (fst_at h3 (by rw [exS3, h]; rfl) hs) hj) hi
theorem exR_miss {P : List (List Int)} {ws : List Int} {k : Nat} (h1 : ∀ q, q < P.length → exS1 P ws k q = none) : exR P ws k = none := fst_none h1

def exbO (M : List (List Int)) (k : Int) (ws : List Int) : Option (Nat × Nat × Nat) := if metB M && (inB k 1 3 && workB M (confs M.length k.toNat 0) ws) then exR (confs M.length k.toNat 0) ws k.toNat else none
def exbB (M : List (List Int)) (k : Int) (ws : List Int) : Bool := (exbO M k ws).isSome
def exbX (M : List (List Int)) (k : Int) (ws : List Int) : List Int := match exbO M k ws with
  | some (i, _, _) => row (confs M.length k.toNat 0) i
  | none => []
def exbY (M : List (List Int)) (k : Int) (ws : List Int) : List Int := match exbO M k ws with
  | some (_, j, _) => row (confs M.length k.toNat 0) j
  | none => []
def exbP (M : List (List Int)) (k : Int) (ws : List Int) : Int := match exbO M k ws with
  | some (i, _, s) => nth (row (confs M.length k.toNat 0) i) s
  | none => 0
theorem exb_none {M : List (List Int)} {k : Int} {ws : List Int} (h : exbO M k ws = none) : exbX M k ws = [] ∧ exbY M k ws = [] ∧ exbP M k ws = 0 ∧ exbB M k ws = false := by
  simp only [exbX, exbY, exbP, exbB, h]
  exact ⟨trivial, trivial, trivial, rfl⟩
theorem exb_some {M : List (List Int)} {k : Int} {ws : List Int} {i j s : Nat} (h : exbO M k ws = some (i, j, s)) : exbX M k ws = row (confs M.length k.toNat 0) i ∧ exbY M k ws = row (confs M.length k.toNat 0) j ∧ exbP M k ws = nth (row (confs M.length k.toNat 0) i) s ∧ exbB M k ws = true := by
  simp only [exbX, exbY, exbP, exbB, h]
  exact ⟨trivial, trivial, trivial, rfl⟩
theorem exb_len {M : List (List Int)} {k : Int} {ws : List Int} : (exbX M k ws).length ≤ 1000 ∧ (exbY M k ws).length ≤ 1000 := by
  have hrow : ∀ i, (row (confs M.length k.toNat 0) i).length ≤ k.toNat := fun i => by
    by_cases h : i < (confs M.length k.toNat 0).length
    · have := (confs_iff.1 (row_mem h)).1; omega
    · rw [show row (confs M.length k.toNat 0) i = [] by simp [row, show ¬ i < (confs M.length k.toNat 0).length from h]]
      exact Nat.zero_le _
  cases h : exbO M k ws with
  | none => rw [(exb_none h).1, (exb_none h).2.1]; simp
  | some t =>
    obtain ⟨i, j, s⟩ := t
    rw [(exb_some h).1, (exb_some h).2.1]
    have hk : k.toNat ≤ 3 := by
      unfold exbO at h
      split at h
      · rename_i hc
        simp only [Bool.and_eq_true] at hc
        have := inB_true.1 hc.2.1
        omega
      · cases h
    have := hrow i
    have := hrow j
    omega
end Go.Proofs.Ytcfhmbmagkoekaa

/- Plain law: the least schedule. -/
namespace Go.Proofs.Ytcfhmbmagkoekaa
open Go.RowKit

--PURE
/-- the least costs of the last d requests, from each configuration on -/
def rsD (M P : List (List Int)) (X : List Int) : Nat → List Int
  | 0 => P.map fun _ => 0
  | d + 1 => wnxL M P (rsD M P X d) (nth X (X.length - 1 - d))
theorem rs_zero {M P : List (List Int)} {X : List Int} {j : Nat} (h : j < P.length) : nth (rsD M P X 0) j = 0 := by simp [rsD, nth, h]
theorem rs_good {M : List (List Int)} {a X : List Int} (h : srvB M a X = true) : ∀ d, d ≤ X.length → GoodW M (confs M.length a.length 0) (rsD M (confs M.length a.length 0) X d) (198 * d) := by
  obtain ⟨hd, hk, ha, hX, hl⟩ := srv_all h
  intro d
  induction d with
  | zero =>
    intro _
    refine ⟨⟨by simp [rsD], fun i j hi hj => ?_⟩, fun j hj => by rw [rs_zero hj]; omega⟩
    rw [rs_zero hi, rs_zero hj]
    have := (mv_confs hd hk.2 (row_mem hi) (row_mem hj)).1
    omega
  | succ d ih =>
    intro hi
    have h1 := (wnx_good hd hk.1 hk.2 (ih (by omega)) (by omega) (hX (X.length - 1 - d) (by omega))).1
    exact h1.mono (by omega)
theorem rs_len {M : List (List Int)} {a X : List Int} (h : srvB M a X = true) {d : Nat} (hd : d ≤ X.length) : (rsD M (confs M.length a.length 0) X d).length = (confs M.length a.length 0).length := (rs_good h d hd).1.1
/-- the test of a place -/
def lsC (M P : List (List Int)) (rs x : List Int) (r cost : Int) (j : Nat) : Bool := hasB (row P j) r && decide (mvC M x (row P j) + nth rs j = cost)
def lsF (M P : List (List Int)) (rs x : List Int) (r cost : Int) (j : Nat) : Option Nat := if lsC M P rs x r cost j then some j else none
def lsJ (M P : List (List Int)) (rs x : List Int) (r cost : Int) : Nat := (fstTo (lsF M P rs x r cost) P.length).getD 0
theorem lsJ_at {M P : List (List Int)} {rs x : List Int} {r cost : Int} {j : Nat} (hj : j < P.length) (h0 : ∀ z, z < j → lsC M P rs x r cost z = false) (h1 : lsC M P rs x r cost j = true) : lsJ M P rs x r cost = j := by
  have := fst_at (f := lsF M P rs x r cost) (i := j) (b := j) (fun z hz => by rw [lsF, h0 z hz]; rfl) (by rw [lsF, h1]; rfl) (n := P.length) hj
  rw [lsJ, this]
  rfl
/-- the configuration after i requests -/
def lsA (M P : List (List Int)) (a X : List Int) : Nat → List Int
  | 0 => a
  | i + 1 => row P (lsJ M P (rsD M P X (X.length - (i + 1))) (lsA M P a X i) (nth X i) (nth (rsD M P X (X.length - i)) (atR P (lsA M P a X i))))
def lsT (M P : List (List Int)) (a X : List Int) (n : Nat) : List (List Int) := (List.range n).map fun i => lsA M P a X (i + 1)
theorem lsT_succ {M P : List (List Int)} {a X : List Int} {n : Nat} : lsT M P a X (n + 1) = lsT M P a X n ++ [lsA M P a X (n + 1)] := by
  rw [lsT, List.range_succ, List.map_append]
  rfl
theorem lsT_len {M P : List (List Int)} {a X : List Int} {n : Nat} : (lsT M P a X n).length = n := by simp [lsT]
theorem lsT_row {M P : List (List Int)} {a X : List Int} {n i : Nat} (h : i < n) : row (lsT M P a X n) i = lsA M P a X (i + 1) := by simp [lsT, row, h]
/-- the first place with a test, and it is there -/
theorem first_of {f : Nat → Bool} : ∀ {n : Nat}, (∃ j, j < n ∧ f j = true) → ∃ j, j < n ∧ f j = true ∧ ∀ z, z < j → f z = false := by
  intro n
  induction n with
  | zero => rintro ⟨j, hj, _⟩; omega
  | succ n ih =>
    rintro ⟨j, hj, hf⟩
    by_cases h : ∃ j, j < n ∧ f j = true
    · obtain ⟨q, h1, h2, h3⟩ := ih h
      exact ⟨q, by omega, h2, h3⟩
    · refine ⟨j, hj, hf, fun z hz => ?_⟩
      cases hz2 : f z with
      | false => rfl
      | true => exact absurd ⟨z, by omega, hz2⟩ h
theorem ls_step {M : List (List Int)} {a X x : List Int} (h : srvB M a X = true) (hx : x ∈ confs M.length a.length 0) {i : Nat} (hi : i < X.length) :
    ∃ j, j < (confs M.length a.length 0).length ∧ lsC M (confs M.length a.length 0) (rsD M (confs M.length a.length 0) X (X.length - (i + 1))) x (nth X i) (nth (rsD M (confs M.length a.length 0) X (X.length - i)) (atR (confs M.length a.length 0) x)) j = true := by
  obtain ⟨hd, hk, ha, hX, hl⟩ := srv_all h
  have hg := rs_good h (X.length - (i + 1)) (by omega)
  obtain ⟨g1, g2⟩ := atR_lt hx
  obtain ⟨_, t, ht, hrt, he⟩ := wnx_way hd hk.1 hk.2 hg (by omega) g1 (hX i hi)
  refine ⟨t, ht, ?_⟩
  have e : rsD M (confs M.length a.length 0) X (X.length - i) = wnxL M (confs M.length a.length 0) (rsD M (confs M.length a.length 0) X (X.length - (i + 1))) (nth X i) := by
    rw [show X.length - i = (X.length - (i + 1)) + 1 by omega, rsD, show X.length - 1 - (X.length - (i + 1)) = i by omega]
  rw [e, wnx_at (by rw [hg.1.1]; exact g1), he, viS, g2]
  have hs := (mv_confs hd hk.2 (row_mem ht) hx).2.2
  simp only [lsC, Bool.and_eq_true, decide_eq_true_eq]
  exact ⟨hasB_true.2 hrt, by omega⟩
theorem ls_conf {M : List (List Int)} {a X : List Int} (h : srvB M a X = true) : ∀ i, i ≤ X.length → lsA M (confs M.length a.length 0) a X i ∈ confs M.length a.length 0 := by
  obtain ⟨hd, hk, ha, hX, hl⟩ := srv_all h
  intro i
  induction i with
  | zero => intro _; exact ha
  | succ i ih =>
    intro hi
    obtain ⟨j, h1, h2, h3⟩ := first_of (ls_step h (ih (by omega)) (i := i) (by omega))
    rw [lsA, lsJ_at h1 h3 h2]
    exact row_mem h1
/-- a step: the place, the point, the cost -/
theorem ls_next {M : List (List Int)} {a X : List Int} (h : srvB M a X = true) {i : Nat} (hi : i < X.length) :
    nth X i ∈ lsA M (confs M.length a.length 0) a X (i + 1) ∧ mvC M (lsA M (confs M.length a.length 0) a X i) (lsA M (confs M.length a.length 0) a X (i + 1)) + nth (rsD M (confs M.length a.length 0) X (X.length - (i + 1))) (atR (confs M.length a.length 0) (lsA M (confs M.length a.length 0) a X (i + 1))) = nth (rsD M (confs M.length a.length 0) X (X.length - i)) (atR (confs M.length a.length 0) (lsA M (confs M.length a.length 0) a X i)) := by
  have hc := ls_conf h i (by omega)
  obtain ⟨j, h1, h2, h3⟩ := first_of (ls_step h hc (i := i) hi)
  have e : lsA M (confs M.length a.length 0) a X (i + 1) = row (confs M.length a.length 0) j := by rw [lsA, lsJ_at h1 h3 h2]
  have hat : atR (confs M.length a.length 0) (row (confs M.length a.length 0) j) = j := atR_row h1
  rw [e, hat]
  simp only [lsC, Bool.and_eq_true, decide_eq_true_eq] at h2
  exact ⟨hasB_true.1 h2.1, h2.2⟩
theorem ls_sched {M : List (List Int)} {a X : List Int} (h : srvB M a X = true) : smB M a X (lsT M (confs M.length a.length 0) a X X.length) = true ∧
    smR M a X (lsT M (confs M.length a.length 0) a X X.length) = nth (rsD M (confs M.length a.length 0) X X.length) (atR (confs M.length a.length 0) a) := by
  have hB : smB M a X (lsT M (confs M.length a.length 0) a X X.length) = true := by
    refine smB_iff.2 ⟨h, lsT_len, fun i hi => ?_⟩
    rw [lsT_len] at hi
    have h1 := ls_conf h (i + 1) (by omega)
    obtain ⟨h2, h3⟩ := conf_pts h1
    obtain ⟨_, h5, _⟩ := confs_iff.1 h1
    refine smOk_iff.2 ?_
    rw [lsT_row hi]
    refine ⟨cfgB_iff.2 ⟨?_, h3, h5⟩, h2, hasB_true.2 (ls_next h hi).1⟩
    rw [h2]
    exact (srv_all h).2.1
  refine ⟨hB, ?_⟩
  rw [smR, if_pos hB]
  have key : ∀ i, i ≤ X.length → scP a (lsT M (confs M.length a.length 0) a X X.length) i = lsA M (confs M.length a.length 0) a X i ∧
      scTo M a (lsT M (confs M.length a.length 0) a X X.length) i + nth (rsD M (confs M.length a.length 0) X (X.length - i)) (atR (confs M.length a.length 0) (lsA M (confs M.length a.length 0) a X i)) = nth (rsD M (confs M.length a.length 0) X X.length) (atR (confs M.length a.length 0) a) := by
    intro i
    induction i with
    | zero => intro _; exact ⟨rfl, by simp [scTo, lsA]⟩
    | succ i ih =>
      intro hi
      obtain ⟨h1, h2⟩ := ih (by omega)
      have h3 := (ls_next h (i := i) (by omega)).2
      refine ⟨by rw [scP_succ, lsT_row (by omega)], ?_⟩
      rw [scTo, h1, lsT_row (by omega)]
      omega
  have h4 := (key X.length (Nat.le_refl _)).2
  rw [Nat.sub_self, rs_zero (atR_lt (ls_conf h X.length (Nat.le_refl _))).1] at h4
  omega
/-- the least cost is that of the least schedule -/
theorem ls_least {M : List (List Int)} {a X : List Int} (h : srvB M a X = true) : smR M a X (lsT M (confs M.length a.length 0) a X X.length) = lwR M a X := by
  obtain ⟨hd, hk, ha, hX, hl⟩ := srv_all h
  obtain ⟨hB, hS⟩ := ls_sched h
  have h1 := least_le hB
  have hw := wl_good hd hk.1 hk.2 ha hX (by omega)
  obtain ⟨ga, gb⟩ := atR_lt ha
  have key : ∀ i, i ≤ X.length → ∀ j, j < (confs M.length a.length 0).length → nth (rsD M (confs M.length a.length 0) X X.length) (atR (confs M.length a.length 0) a) ≤ nth (wlAt M (confs M.length a.length 0) a X i) j + nth (rsD M (confs M.length a.length 0) X (X.length - i)) j := by
    intro i
    induction i with
    | zero =>
      intro _ j hj
      have hlip := (rs_good h X.length (Nat.le_refl _)).1.2 _ _ ga hj
      rw [gb] at hlip
      have : nth (wlAt M (confs M.length a.length 0) a X 0) j = mvC M a (row (confs M.length a.length 0) j) := by
        simp [wlAt, wst, nth, row, hj]
      rw [this, Nat.sub_zero]
      omega
    | succ i ih =>
      intro hi j hj
      have hg := hw i (by omega)
      have hgr := rs_good h (X.length - (i + 1)) (by omega)
      obtain ⟨_, t, ht, hrt, he⟩ := wnx_way hd hk.1 hk.2 hg (by omega) hj (hX i (by omega))
      have h2 := ih (by omega) t ht
      have hlip := hgr.1.2 _ _ ht hj
      have hway := (wnx_way hd hk.1 hk.2 hgr (by omega) ht (hX i (by omega))).1 t ht hrt
      have e : rsD M (confs M.length a.length 0) X (X.length - i) = wnxL M (confs M.length a.length 0) (rsD M (confs M.length a.length 0) X (X.length - (i + 1))) (nth X i) := by
        rw [show X.length - i = (X.length - (i + 1)) + 1 by omega, rsD, show X.length - 1 - (X.length - (i + 1)) = i by omega]
      rw [e, wnx_at (by rw [hgr.1.1]; exact ht)] at h2
      rw [wlAt, wnx_at (by rw [hg.1.1]; exact hj), he]
      unfold viS at *
      rw [mv_self hd hk.2 (row_mem ht)] at hway
      omega
  have h5 : nth (rsD M (confs M.length a.length 0) X X.length) (atR (confs M.length a.length 0) a) ≤ lwR M a X := by
    rw [lwR, if_pos h]
    obtain ⟨⟨s, hs, e⟩, _⟩ := leastL_min (wl_ne h (Nat.le_refl X.length))
    obtain ⟨j, hj, rfl⟩ := mem_iff_nth.1 hs
    have e' : leastL (wlAt M (confs M.length a.length 0) a X X.length) = nth (wlAt M (confs M.length a.length 0) a X X.length) j := e
    rw [(hw X.length (Nat.le_refl _)).1.1] at hj
    have := key X.length (Nat.le_refl _) j hj
    rw [Nat.sub_self, rs_zero hj] at this
    omega
  omega
end Go.Proofs.Ytcfhmbmagkoekaa

