/- Plain law: runs of the work function algorithm, cruel requests. -/
import Derived.Test.YtpiplhgiphndeaaSvS
namespace Go.Proofs.Ytpiplhgiphndeaa
open Go.RowKit

--PURE
/-- the work list of the empty sequence -/
def wst (M P : List (List Int)) (a : List Int) : List Int := P.map fun b => mvC M a b
/-- the work lists after the first requests -/
def wlAt (M P : List (List Int)) (a X : List Int) : Nat → List Int
  | 0 => wst M P a
  | i + 1 => wnxL M P (wlAt M P a X i) (nth X i)
def wlL (M P : List (List Int)) (a X : List Int) (n : Nat) : List (List Int) := (List.range (n + 1)).map (wlAt M P a X)
theorem wlL_succ {M P : List (List Int)} {a X : List Int} {n : Nat} : wlL M P a X (n + 1) = wlL M P a X n ++ [wlAt M P a X (n + 1)] := by
  rw [wlL, List.range_succ, List.map_append]
  rfl
theorem wlL_len {M P : List (List Int)} {a X : List Int} {n : Nat} : (wlL M P a X n).length = n + 1 := by simp [wlL]
theorem wlL_row {M P : List (List Int)} {a X : List Int} {n i : Nat} (h : i ≤ n) : row (wlL M P a X n) i = wlAt M P a X i := by simp [wlL, row, show i < n + 1 by omega]
theorem wl_good {M : List (List Int)} {n k : Nat} {a X : List Int} (hd : Dst M n) (h1 : 1 ≤ k) (hk : k ≤ 3) (ha : a ∈ confs n k 0) (hX : ∀ j, j < X.length → 0 ≤ nth X j ∧ nth X j < (n : Int)) (hl : X.length ≤ 1000) :
    ∀ i, i ≤ X.length → GoodW M (confs n k 0) (wlAt M (confs n k 0) a X i) (297 + 198 * i) := by
  intro i
  induction i with
  | zero => intro _; exact start_good hd hk ha
  | succ i ih =>
    intro hi
    have h := (wnx_good hd h1 hk (ih (by omega)) (by omega) (hX i (by omega))).1
    refine h.mono ?_
    omega
/-- where the algorithm is, and what it has paid -/
def rnA (M P : List (List Int)) (a X : List Int) : Nat → List Int
  | 0 => a
  | i + 1 => svC M P (wlAt M P a X (i + 1)) (rnA M P a X i) (nth X i)
def rnS (M P : List (List Int)) (a X : List Int) : Nat → Int
  | 0 => 0
  | i + 1 => rnS M P a X i + svK M P (wlAt M P a X (i + 1)) (rnA M P a X i) (nth X i)
def rnT (M P : List (List Int)) (a X : List Int) (n : Nat) : List (List Int) := (List.range n).map fun i => rnA M P a X (i + 1)
theorem rnT_succ {M P : List (List Int)} {a X : List Int} {n : Nat} : rnT M P a X (n + 1) = rnT M P a X n ++ [rnA M P a X (n + 1)] := by
  rw [rnT, List.range_succ, List.map_append]
  rfl
theorem rnT_len {M P : List (List Int)} {a X : List Int} {n : Nat} : (rnT M P a X n).length = n := by simp [rnT]
theorem rn_conf {M : List (List Int)} {n k : Nat} {a X : List Int} (hd : Dst M n) (h1 : 1 ≤ k) (hk : k ≤ 3) (ha : a ∈ confs n k 0) (hX : ∀ j, j < X.length → 0 ≤ nth X j ∧ nth X j < (n : Int)) (hl : X.length ≤ 1000) :
    ∀ i, i ≤ X.length → rnA M (confs n k 0) a X i ∈ confs n k 0 ∧ 0 ≤ rnS M (confs n k 0) a X i ∧ rnS M (confs n k 0) a X i ≤ 99 * i := by
  intro i
  induction i with
  | zero => intro _; exact ⟨ha, by simp [rnS], by simp [rnS]⟩
  | succ i ih =>
    intro hi
    obtain ⟨h2, h3, h4⟩ := ih (by omega)
    obtain ⟨h5, _, h6, h7⟩ := sv_conf hd h1 (wl_good hd h1 hk ha hX hl (i + 1) hi) (by omega) h2 (hX i (by omega))
    refine ⟨h5, ?_, ?_⟩
    · rw [rnS]; omega
    · rw [rnS]; omega
theorem rnT_mem {M : List (List Int)} {n k : Nat} {a X : List Int} (hd : Dst M n) (h1 : 1 ≤ k) (hk : k ≤ 3) (ha : a ∈ confs n k 0) (hX : ∀ j, j < X.length → 0 ≤ nth X j ∧ nth X j < (n : Int)) (hl : X.length ≤ 1000) {i : Nat} (hi : i ≤ X.length) :
    ∀ r ∈ rnT M (confs n k 0) a X i, r ∈ confs n k 0 := by
  intro r hr
  obtain ⟨j, hj, rfl⟩ := List.mem_map.1 hr
  have := List.mem_range.1 hj
  exact (rn_conf hd h1 hk ha hX hl (j + 1) (by omega)).1

/-- the least number that is not in a list, as far as m -/
def misTo (l : List Int) : Nat → Nat → Nat
  | 0, r => r
  | m + 1, r => if (r : Int) ∈ l then misTo l m (r + 1) else r
theorem misTo_spec {l : List Int} : ∀ (m r : Nat), (∀ j, r ≤ j → j < misTo l m r → (j : Int) ∈ l) ∧ r ≤ misTo l m r ∧ misTo l m r ≤ r + m ∧ ((misTo l m r : Int) ∈ l → misTo l m r = r + m)
  | 0, r => ⟨fun j h1 h2 => by simp only [misTo] at h2; omega, Nat.le_refl _, Nat.le_refl _, fun _ => rfl⟩
  | m + 1, r => by
    rw [misTo]
    split
    · rename_i hr
      obtain ⟨h1, h2, h3, h4⟩ := misTo_spec (l := l) m (r + 1)
      refine ⟨fun j hj hj2 => ?_, by omega, by omega, fun h => by have := h4 h; omega⟩
      by_cases e : j = r
      · rw [e]; exact hr
      · exact h1 j (by omega) hj2
    · rename_i hr
      exact ⟨fun j h1 h2 => by omega, Nat.le_refl _, by omega, fun h => absurd h hr⟩
/-- the least number that is not in a list -/
def misL (l : List Int) : Nat := misTo l (l.length + 1) 0
theorem mis_in {l : List Int} {j : Nat} (h : j < misL l) : (j : Int) ∈ l := (misTo_spec (l.length + 1) 0).1 j (by omega) h
theorem mis_pig : ∀ {l : List Int} {n : Nat}, (∀ j, j < n → (j : Int) ∈ l) → n ≤ l.length := by
  intro l n h
  have h1 : ((List.range n).map fun i : Nat => (i : Int)).Nodup := idL_nodup n
  have h2 : ∀ x ∈ (List.range n).map (fun i : Nat => (i : Int)), x ∈ l := by
    intro x hx
    obtain ⟨i, hi, rfl⟩ := List.mem_map.1 hx
    exact h i (List.mem_range.1 hi)
  by_cases hc : n ≤ l.length
  · exact hc
  · have hp := perm_of_sub (l := (List.range (l.length + 1)).map fun i : Nat => (i : Int)) (m := l) (idL_nodup _) (fun x hx => by
      obtain ⟨i, hi, rfl⟩ := List.mem_map.1 hx
      exact h i (by have := List.mem_range.1 hi; omega)) (by simp)
    have := hp.length_eq
    simp at this
theorem mis_le {l : List Int} : misL l ≤ l.length := mis_pig fun _ hj => mis_in hj
theorem mis_not {l : List Int} : (misL l : Int) ∉ l := by
  intro h
  have h1 := (misTo_spec (l := l) (l.length + 1) 0).2.2.2 h
  have h2 := mis_le (l := l)
  unfold misL at h2
  omega
/-- cruel requests: where the algorithm is, its work list -/
def crT (M P : List (List Int)) (a : List Int) : Nat → List Int × List Int
  | 0 => (a, wst M P a)
  | i + 1 => (svC M P (wnxL M P (crT M P a i).2 (misL (crT M P a i).1)) (crT M P a i).1 (misL (crT M P a i).1), wnxL M P (crT M P a i).2 (misL (crT M P a i).1))
def crL (M P : List (List Int)) (a : List Int) (n : Nat) : List Int := (List.range n).map fun i => ((misL (crT M P a i).1 : Nat) : Int)
theorem crL_succ {M P : List (List Int)} {a : List Int} {n : Nat} : crL M P a (n + 1) = crL M P a n ++ [((misL (crT M P a n).1 : Nat) : Int)] := by
  rw [crL, List.range_succ, List.map_append]
  rfl
theorem crL_len {M P : List (List Int)} {a : List Int} {n : Nat} : (crL M P a n).length = n := by simp [crL]
theorem cr_good {M : List (List Int)} {n k : Nat} {a : List Int} (hd : Dst M n) (h1 : 1 ≤ k) (hk : k ≤ 3) (hkn : k < n) (ha : a ∈ confs n k 0) :
    ∀ i, i ≤ 1000 → (crT M (confs n k 0) a i).1 ∈ confs n k 0 ∧ GoodW M (confs n k 0) (crT M (confs n k 0) a i).2 (297 + 198 * i) := by
  intro i
  induction i with
  | zero => intro _; exact ⟨ha, start_good hd hk ha⟩
  | succ i ih =>
    intro hi
    obtain ⟨h2, h3⟩ := ih (by omega)
    have hr : 0 ≤ ((misL (crT M (confs n k 0) a i).1 : Nat) : Int) ∧ ((misL (crT M (confs n k 0) a i).1 : Nat) : Int) < (n : Int) := by
      have := mis_le (l := (crT M (confs n k 0) a i).1)
      have := (confs_iff.1 h2).1
      omega
    have hg := (wnx_good hd h1 hk h3 (by omega) hr).1
    exact ⟨(sv_conf hd h1 hg (by omega) h2 hr).1, hg.mono (by omega)⟩
theorem cr_mis {M : List (List Int)} {n k : Nat} {a : List Int} (hd : Dst M n) (h1 : 1 ≤ k) (hk : k ≤ 3) (hkn : k < n) (ha : a ∈ confs n k 0) {i : Nat} (hi : i ≤ 1000) : misL (crT M (confs n k 0) a i).1 < n := by
  have := mis_le (l := (crT M (confs n k 0) a i).1)
  have := (confs_iff.1 (cr_good hd h1 hk hkn ha i hi).1).1
  omega
end Go.Proofs.Ytpiplhgiphndeaa
