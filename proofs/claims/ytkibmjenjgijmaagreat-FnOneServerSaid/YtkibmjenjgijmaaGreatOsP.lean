/- One server on a metric as a problem: plain laws (for FnOneServer). -/
import Derived.Test.YtkibmjenjgijmaaGreatGrI
import Derived.Test.YtkibmjenjgijmaaGreatGrC
import Derived.Test.YtkibmjenjgijmaaGreatGs
namespace Go.Proofs.YtkibmjenjgijmaaGreat
open Go.RowKit

--PURE
/-- the requests that can be served at their points alone -/
def osS (n : Nat) : List (List Int) := (List.range n).map fun r => (List.range n).map fun s => if s = r then 0 else -1
theorem os_row {n r : Nat} (h : r < n) : row (osS n) r = (List.range n).map fun s => if s = r then 0 else -1 := by simp [osS, row, h]
theorem os_cell {n r t : Nat} (h : r < n) (ht : t < n) : cell (osS n) r t = if t = r then 0 else -1 := by
  rw [cell, os_row h]
  simp [nth, ht]
theorem os_served {n r : Nat} (h : r < n) {t : Int} : t ∈ servedL (row (osS n) r) ↔ t = r := by
  rw [servedL, servedTo_mem]
  constructor
  · rintro ⟨i, h1, h2, rfl⟩
    have hi : i < n := by rw [os_row h] at h1; simpa using h1
    have e : nth (row (osS n) r) i = cell (osS n) r i := rfl
    rw [e, os_cell h hi] at h2
    split at h2
    · rename_i e; rw [e]
    · omega
  · rintro rfl
    refine ⟨r, by rw [os_row h]; simpa using h, ?_, rfl⟩
    have e : nth (row (osS n) r) r = cell (osS n) r r := rfl
    rw [e, os_cell h h, if_pos rfl]
    omega
theorem os_prob {M : List (List Int)} (hM : metB M = true) (hn : M.length ≤ 4) : probB M (osS M.length) = true := by
  have hl := met_len hM
  have h : ∀ n : Nat, 1 ≤ n → n ≤ 4 → (inB n 1 4 && (inB (osS n).length 1 4 && decide (∀ r ∈ osS n, reqB n r = true))) = true := by
    intro n h1 h2
    match n, h1, h2 with
    | 1, _, _ => decide
    | 2, _, _ => decide
    | 3, _, _ => decide
    | 4, _, _ => decide
  have h2 := h M.length hl.1 hn
  simp only [Bool.and_eq_true] at h2
  obtain ⟨a1, a2, a3⟩ := h2
  rw [probB, a1, hM, a2, a3]
  rfl
/-- the cost of going from point to point -/
def osC (M : List (List Int)) : Int → List Int → Int
  | _, [] => 0
  | s, r :: X => cell M s.toNat r.toNat + osC M r X
theorem os_opt {M : List (List Int)} (hM : metB M = true) (hn : M.length ≤ 4) : ∀ (X : List Int) (s : Int), 0 ≤ s ∧ s < (M.length : Int) → (∀ x ∈ X, 0 ≤ x ∧ x < (M.length : Int)) → X.length ≤ 60 → optL M (osS M.length) (row M s.toNat) X = osC M s X
  | [], s, hs, _, _ => by rw [optL_nil (os_prob hM hn) (by omega)]; rfl
  | r :: X, s, hs, hX, hl => by
    have hr := hX r (.head _)
    have hSl : (osS M.length).length = M.length := by simp [osS]
    rw [List.length_cons] at hl
    obtain ⟨⟨t, ht, e⟩, _⟩ := opt_step (os_prob hM hn) (X := X) (r := r) (s := s.toNat) (by omega) (by rw [hSl]; exact hr) (fun x hx => by rw [hSl]; exact hX x (.tail _ hx)) (by omega)
    have htr := (os_served (n := M.length) (r := r.toNat) (by omega)).1 ht
    have htr' : t = r := by omega
    subst htr'
    rw [e]
    show stepC M (osS M.length) t (s.toNat : Int) t + optL M (osS M.length) (row M t.toNat) X = osC M s (t :: X)
    rw [os_opt hM hn X t hr (fun x hx => hX x (.tail _ hx)) (by omega), osC, stepC, os_cell (by omega) (by omega), if_pos rfl]
    have : ((s.toNat : Nat) : Int).toNat = s.toNat := by omega
    rw [this]
    omega
/-- the same, from the front -/
def osTo (M : List (List Int)) (s : Int) (X : List Int) : Nat → Int
  | 0 => 0
  | i + 1 => osTo M s X i + cell M (if i = 0 then s else nth X (i - 1)).toNat (nth X i).toNat
theorem osTo_cons {M : List (List Int)} {s r : Int} {X : List Int} : ∀ i, osTo M s (r :: X) (i + 1) = cell M s.toNat r.toNat + osTo M r X i
  | 0 => by simp [osTo, nth]
  | i + 1 => by
    rw [osTo, osTo_cons i, osTo]
    have e1 : nth (r :: X) (i + 1) = nth X i := by simp [nth]
    have e2 : (if i + 1 = 0 then s else nth (r :: X) (i + 1 - 1)) = if i = 0 then r else nth X (i - 1) := by
      rw [if_neg (by omega), Nat.add_sub_cancel]
      match i with
      | 0 => simp [nth]
      | i + 1 => simp [nth]
    rw [e1, e2]
    omega
theorem osC_to {M : List (List Int)} : ∀ (X : List Int) (s : Int), osC M s X = osTo M s X X.length
  | [], _ => rfl
  | r :: X, s => by rw [osC, List.length_cons, osTo_cons, osC_to X r]
theorem mv_one {M : List (List Int)} (hd : Dst M M.length) {p x : Int} (hp : 0 ≤ p ∧ p < (M.length : Int)) (hx : 0 ≤ x ∧ x < (M.length : Int)) : mvC M [p] [x] = cell M p.toNat x.toNat := by
  obtain ⟨c, pc, e⟩ := (mvC_min hd (a := [p]) (b := [x]) (fun y hy => by simp at hy; omega) (fun y hy => by simp at hy; omega) rfl (by simp)).1
  have : c = [x] := List.perm_singleton.1 pc
  rw [e, this, costL, costL_nil]
  omega
/-- a schedule of one server costs the way from point to point -/
theorem os_sched {M : List (List Int)} {s : Int} {X : List Int} {C : List (List Int)} (h : smB M [s] X C = true) (hs : 0 ≤ s ∧ s < (M.length : Int)) : smR M [s] X C = osC M s X := by
  obtain ⟨h1, h2, h3⟩ := smB_iff.1 h
  obtain ⟨hd, _, _, hX, _⟩ := srv_all h1
  have hrow : ∀ i, i < X.length → row C i = [nth X i] := fun i hi => by
    obtain ⟨_, k1, k2⟩ := smOk_iff.1 (h3 i (by omega))
    match he : row C i, k1 with
    | [y], _ =>
      rw [he] at k2
      have := hasB_true.1 k2
      simp at this
      rw [this]
  rw [smR, if_pos h, osC_to]
  have key : ∀ i, i ≤ X.length → scTo M [s] C i = osTo M s X i ∧ scP [s] C i = [if i = 0 then s else nth X (i - 1)] := by
    intro i
    induction i with
    | zero => intro _; exact ⟨rfl, rfl⟩
    | succ i ih =>
      intro hi
      obtain ⟨g1, g2⟩ := ih (by omega)
      rw [scTo, g1, g2, osTo, scP_succ, hrow i (by omega), if_neg (show ¬ i + 1 = 0 by omega), Nat.add_sub_cancel]
      have hp : 0 ≤ (if i = 0 then s else nth X (i - 1)) ∧ (if i = 0 then s else nth X (i - 1)) < (M.length : Int) := by
        split
        · exact hs
        · exact hX (i - 1) (by omega)
      exact ⟨by rw [mv_one hd hp (hX i (by omega))], rfl⟩
  exact (key _ (Nat.le_refl _)).1
/-- what the law of one server asks -/
theorem os_law {M : List (List Int)} {s : Int} {X : List Int} (hn : M.length ≤ 4) (h : srvB M [s] X = true) : startB M (osS M.length) s X = true ∧ optL M (osS M.length) (row M s.toNat) X = lwR M [s] X ∧ gsS M [s] X = lwR M [s] X := by
  obtain ⟨hd, hk, ha, hX, hl⟩ := srv_all h
  have hM : metB M = true := by simp only [srvB, Bool.and_eq_true] at h; exact h.1
  have hs : 0 ≤ s ∧ s < (M.length : Int) := by
    obtain ⟨_, hp⟩ := conf_pts ha
    exact hp s (.head _)
  have hSl : (osS M.length).length = M.length := by simp [osS]
  have hXm : ∀ x ∈ X, 0 ≤ x ∧ x < (M.length : Int) := fun x hx => by
    obtain ⟨j, hj, rfl⟩ := mem_iff_nth.1 hx
    exact hX j hj
  have h1 := ls_sched h
  have h2 := ls_least h
  have h3 := gr_sched h
  have e1 := os_sched h1.1 hs
  have e2 := os_sched h3.1 hs
  refine ⟨?_, ?_, ?_⟩
  · have hi : inB s 0 ((M.length : Int) - 1) = true := inB_true.2 (by omega)
    have hb : belowB (osS M.length).length X = true := belowB_of fun j hj => inB_true.2 (by rw [hSl]; have := hX j hj; omega)
    rw [startB, os_prob hM hn, hi, seqB, hb]
    simp
    omega
  · rw [os_opt hM hn X s hs hXm (by omega), ← e1, h2]
  · rw [(gs_yes h).2, ← h3.2, e2, ← e1, h2]
end Go.Proofs.YtkibmjenjgijmaaGreat
