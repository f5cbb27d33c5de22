/- Plain words on the configurations of servers: all of them, in order. -/
import Derived.Test.YtohjbabjkjcddaaMovP
namespace Go.Proofs.Ytohjbabjkjcddaa
open Go.RowKit

--PURE
def confs (n : Nat) : Nat → Nat → List (List Int)
  | 0, _ => [[]]
  | k + 1, f => (List.range' f (n - f)).flatMap fun x => (confs n k x).map (List.cons (x : Int))
/-- those that begin with a point from f on, ahead of x -/
def cfTo (n k f x : Nat) : List (List Int) := (List.range' f (x - f)).flatMap fun y => (confs n k y).map (List.cons (y : Int))
theorem confs_succ (n k f : Nat) : confs n (k + 1) f = cfTo n k f n := rfl
theorem cfTo_zero (n k f : Nat) : cfTo n k f f = [] := by simp [cfTo]
theorem cfTo_succ {n k f x : Nat} (h : f ≤ x) : cfTo n k f (x + 1) = cfTo n k f x ++ (confs n k x).map (List.cons (x : Int)) := by
  have e : x + 1 - f = (x - f) + 1 := by omega
  rw [cfTo, e, List.range'_concat, List.flatMap_append, cfTo]
  simp only [List.flatMap_cons, List.flatMap_nil, List.append_nil, Nat.one_mul]
  rw [show f + (x - f) = x by omega]
theorem cfTo_row {n k f x j : Nat} (hj : j < (confs n k x).length) : cfTo n k f x ++ ((confs n k x).take (j + 1)).map (List.cons (x : Int)) = (cfTo n k f x ++ ((confs n k x).take j).map (List.cons (x : Int))) ++ [(x : Int) :: row (confs n k x) j] := by
  rw [take_succ_row hj, List.map_append, List.append_assoc]
  rfl
theorem confs_mem {n : Nat} : ∀ {k f : Nat} {c : List Int}, c ∈ confs n k f → c.length = k ∧ ∀ x ∈ c, (f : Int) ≤ x ∧ x < (n : Int)
  | 0, f, c, h => by
    simp only [confs, List.mem_singleton] at h
    rw [h]; simp
  | k + 1, f, c, h => by
    simp only [confs, List.mem_flatMap, List.mem_range'_1, List.mem_map] at h
    obtain ⟨y, hy, c0, h0, rfl⟩ := h
    obtain ⟨h1, h2⟩ := confs_mem h0
    refine ⟨by simp [h1], fun x hx => ?_⟩
    rcases List.mem_cons.1 hx with rfl | hx
    · omega
    · have := h2 x hx; omega
theorem flat_len {α β : Type} (g : α → List β) (c : Nat) : ∀ l : List α, (∀ x ∈ l, (g x).length ≤ c) → (l.flatMap g).length ≤ l.length * c
  | [], _ => by simp
  | x :: l, h => by
    have h1 := h x (by simp)
    have h2 := flat_len g c l (fun y hy => h y (by simp [hy]))
    simp only [List.flatMap_cons, List.length_append, List.length_cons, Nat.add_mul, Nat.one_mul]
    omega
theorem confs_len {n : Nat} (hn : n ≤ 6) : ∀ (k f : Nat), (confs n k f).length ≤ 6 ^ k
  | 0, _ => by simp [confs]
  | k + 1, f => by
    have := flat_len (fun x : Nat => (confs n k x).map (List.cons (x : Int))) (6 ^ k) (List.range' f (n - f)) (fun x _ => by rw [List.length_map]; exact confs_len hn k x)
    rw [List.length_range'] at this
    have h2 : (n - f) * 6 ^ k ≤ 6 * 6 ^ k := Nat.mul_le_mul_right _ (by omega)
    rw [Nat.pow_succ, Nat.mul_comm (6 ^ k) 6]
    exact Nat.le_trans this h2
theorem cfTo_len {n k f x : Nat} (hn : n ≤ 6) (hx : x ≤ n) : (cfTo n k f x).length ≤ 6 * 6 ^ k := by
  have := flat_len (fun x : Nat => (confs n k x).map (List.cons (x : Int))) (6 ^ k) (List.range' f (x - f)) (fun x _ => by rw [List.length_map]; exact confs_len hn k x)
  rw [List.length_range'] at this
  exact Nat.le_trans this (Nat.mul_le_mul_right _ (by omega))
/-- what holds of a configuration -/
def Asc (c : List Int) : Prop := c.Pairwise (· ≤ ·)
theorem confs_iff {n : Nat} : ∀ {k f : Nat} {c : List Int}, c ∈ confs n k f ↔ c.length = k ∧ Asc c ∧ ∀ x ∈ c, (f : Int) ≤ x ∧ x < (n : Int)
  | 0, f, c => by
    simp only [confs, List.mem_singleton]
    constructor
    · rintro rfl; exact ⟨rfl, List.Pairwise.nil, by simp⟩
    · rintro ⟨h, _⟩; exact List.eq_nil_of_length_eq_zero h
  | k + 1, f, c => by
    simp only [confs, List.mem_flatMap, List.mem_range'_1, List.mem_map]
    constructor
    · rintro ⟨y, hy, c0, h0, rfl⟩
      obtain ⟨h1, h2, h3⟩ := confs_iff.1 h0
      refine ⟨by simp [h1], List.pairwise_cons.2 ⟨fun x hx => (h3 x hx).1, h2⟩, fun x hx => ?_⟩
      rcases List.mem_cons.1 hx with rfl | hx
      · omega
      · have := h3 x hx; omega
    · rintro ⟨h1, h2, h3⟩
      cases c with
      | nil => simp at h1
      | cons x c =>
        have hx := h3 x (by simp)
        rw [Asc, List.pairwise_cons] at h2
        refine ⟨x.toNat, by omega, c, confs_iff.2 ⟨by simpa using h1, h2.2, fun y hy => ?_⟩, by rw [Int.toNat_of_nonneg (by omega)]⟩
        have := h2.1 y hy
        have := h3 y (by simp [hy])
        omega
theorem pairwise_flat {α β : Type} {R : β → β → Prop} {g : α → List β} : ∀ {l : List α}, (∀ x ∈ l, (g x).Pairwise R) → l.Pairwise (fun x y => ∀ u ∈ g x, ∀ v ∈ g y, R u v) → (l.flatMap g).Pairwise R
  | [], _, _ => by simp
  | x :: l, h1, h2 => by
    rw [List.pairwise_cons] at h2
    rw [List.flatMap_cons, List.pairwise_append]
    refine ⟨h1 x (by simp), pairwise_flat (fun y hy => h1 y (by simp [hy])) h2.2, fun u hu v hv => ?_⟩
    obtain ⟨y, hy, hv⟩ := List.mem_flatMap.1 hv
    exact h2.1 y hy u hu v hv
theorem confs_nodup (n : Nat) : ∀ k f, (confs n k f).Nodup
  | 0, _ => by simp [confs]
  | k + 1, f => by
    rw [confs, List.nodup_iff_pairwise_ne]
    refine pairwise_flat (fun x _ => ?_) ?_
    · rw [List.pairwise_map]
      exact (List.nodup_iff_pairwise_ne.1 (confs_nodup n k x)).imp (fun h e => h (List.cons.inj e).2)
    · refine (List.nodup_iff_pairwise_ne.1 (List.nodup_range' (step := 1))).imp (fun {x y} hxy u hu v hv e => ?_)
      obtain ⟨c, _, rfl⟩ := List.mem_map.1 hu
      obtain ⟨d, _, rfl⟩ := List.mem_map.1 hv
      have := (List.cons.inj e).1
      omega
end Go.Proofs.Ytohjbabjkjcddaa
