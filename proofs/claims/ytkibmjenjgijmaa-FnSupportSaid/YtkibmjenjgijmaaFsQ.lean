/- Values that a draw makes of configurations: the work list below them is there. -/
import Derived.Test.YtkibmjenjgijmaaFsS
namespace Go.Proofs.Ytkibmjenjgijmaa
open Go.RowKit

theorem fs_small {M C : List (List Int)} {V x : List Int} (h : ∀ j, j < C.length → nth V j ≤ 8 ∧ mvC M (row C j) x ≤ 297) : ∀ j, j ≤ C.length → fsAt M C V x j ≤ 305 := by
  intro j
  induction j with
  | zero => intro _; simp [fsAt]
  | succ j ih =>
    intro hj
    have h1 := h j (by omega)
    have h2 := ih (by omega)
    rw [fsAt]
    split <;> omega
theorem fs_yes {M C : List (List Int)} {V : List Int} (h : fsOk M C V = true) (hV : ∀ j, j < C.length → nth V j ≤ 8) : fsB M C V = true ∧ fsR M C V = fsV M C V := by
  have h1 : fsB M C V = true := by
    rw [fsB, h, Bool.true_and]
    refine List.all_eq_true.2 fun y hy => ?_
    obtain ⟨x, hx, rfl⟩ := List.mem_map.1 hy
    have := fs_small (M := M) (V := V) (x := x) (fun j hj => ⟨hV j hj, (fs_mv h hx j hj).2.2⟩) C.length (Nat.le_refl _)
    exact decide_eq_true (by omega)
  exact ⟨h1, by rw [fsR, h1]; rfl⟩
theorem row_map {f : Nat → List Int} {T : List Nat} {i : Nat} (h : i < T.length) : row (T.map f) i = f T[i] := by simp [row, h]
theorem fs_draw {M : List (List Int)} {k : Nat} {T : List Nat} {V : List Int} (hM : metB M = true) (hk : 1 ≤ k ∧ k ≤ 3) (hT : 1 ≤ T.length ∧ T.length ≤ 56) (hTb : ∀ t ∈ T, t < (confs M.length k 0).length) (hVl : V.length = T.length) (hV : ∀ y ∈ V, 0 ≤ y ∧ y ≤ 8) :
    fsB M (T.map (row (confs M.length k 0))) V = true ∧ fsR M (T.map (row (confs M.length k 0))) V = fsV M (T.map (row (confs M.length k 0))) V ∧ (fsV M (T.map (row (confs M.length k 0))) V).length = (confs M.length k 0).length ∧ ∀ y ∈ fsV M (T.map (row (confs M.length k 0))) V, 0 ≤ y ∧ y ≤ 1000000 := by
  have hl : (T.map (row (confs M.length k 0))).length = T.length := by simp
  have hr : ∀ i (hi : i < T.length), row (T.map (row (confs M.length k 0))) i = row (confs M.length k 0) T[i] := fun i hi => row_map hi
  have hc : ∀ i, i < T.length → (row (T.map (row (confs M.length k 0))) i).length = k ∧ cfgB M.length (row (T.map (row (confs M.length k 0))) i) = true := fun i hi => by
    rw [hr i hi]
    obtain ⟨h1, h2, h3⟩ := row_conf (hTb _ (List.getElem_mem hi))
    exact ⟨h1, cfgB_iff.2 ⟨by rw [h1]; exact hk, h2, h3⟩⟩
  have h0 := (hc 0 (by omega)).1
  have hok : fsOk M (T.map (row (confs M.length k 0))) V = true := fsOk_iff.2 ⟨hM, by rw [hl]; exact hT, by rw [hl]; exact hVl, fun i hi => by
    rw [hl] at hi
    have := hV _ (nth_mem (xs := V) (k := i) (by omega))
    exact fsC_iff.2 ⟨by rw [h0, (hc i hi).1], (hc i hi).2, by omega, by omega⟩⟩
  obtain ⟨g1, g2⟩ := fs_yes hok (fun j hj => by
    rw [hl] at hj
    exact (hV _ (nth_mem (xs := V) (k := j) (by omega))).2)
  refine ⟨g1, g2, by rw [fsV_len, h0], fun y hy => ?_⟩
  have := fsV_i64 hok y hy
  omega
end Go.Proofs.Ytkibmjenjgijmaa
