/- First least places: the greedy state, the best schedule. -/
import Derived.Test.YtmgcfnciejfpbaaGreatWorkP
namespace Go.Proofs.YtmgcfnciejfpbaaGreat
open Go.RowKit

--PURE
/-- the better of a place so far (a negative one is none) and a new one -/
def argStep (c : Int → Int) (g t : Int) : Int := if g < 0 ∨ c t < c g then t else g
theorem arg_mem {c : Int → Int} : ∀ (l : List Int) (g : Int), l.foldl (argStep c) g = g ∨ l.foldl (argStep c) g ∈ l
  | [], g => .inl rfl
  | t :: l, g => by
    rw [List.foldl_cons]
    rcases arg_mem (c := c) l (argStep c g t) with h | h
    · unfold argStep at h ⊢
      split at h
      · rename_i h'; rw [if_pos h']; right; rw [h]; simp
      · rename_i h'; rw [if_neg h']; left; exact h
    · right; simp [h]
theorem arg_first {c : Int → Int} {l : List Int} (h0 : ∀ s ∈ l, 0 ≤ s) : ∀ {j : Nat}, 0 < j → j ≤ l.length →
    ∃ i, i < j ∧ (l.take j).foldl (argStep c) (-1) = nth l i ∧ (∀ q, q < i → c (nth l i) < c (nth l q)) ∧ ∀ q, q < j → c (nth l i) ≤ c (nth l q)
  | 0, h, _ => by omega
  | 1, _, hl => by
    refine ⟨0, by omega, ?_, fun q hq => by omega, fun q hq => ?_⟩
    · rw [foldTake _ _ (by omega)]
      show argStep c (-1) _ = _
      unfold argStep
      rw [if_pos (.inl (by omega))]
    · have : q = 0 := by omega
      subst this
      exact Int.le_refl _
  | j + 2, _, hl => by
    obtain ⟨i, hi, h1, h2, h3⟩ := arg_first (c := c) h0 (j := j + 1) (by omega) (by omega)
    rw [foldTake _ _ (by omega), h1]
    have hn := h0 _ (nth_mem (xs := l) (k := i) (by omega))
    unfold argStep
    by_cases hc : c (nth l (j + 1)) < c (nth l i)
    · rw [if_pos (.inr hc)]
      refine ⟨j + 1, by omega, rfl, fun q hq => ?_, fun q hq => ?_⟩
      · have := h3 q (by omega); omega
      · by_cases hq' : q = j + 1
        · subst hq'; exact Int.le_refl _
        · have := h3 q (by omega); omega
    · rw [if_neg (by omega)]
      refine ⟨i, by omega, rfl, h2, fun q hq => ?_⟩
      by_cases hq' : q = j + 1
      · subst hq'; omega
      · exact h3 q (by omega)
theorem arg_all {c : Int → Int} {l : List Int} (h0 : ∀ s ∈ l, 0 ≤ s) (hne : l ≠ []) :
    ∃ i, i < l.length ∧ l.foldl (argStep c) (-1) = nth l i ∧ (∀ q, q < i → c (nth l i) < c (nth l q)) ∧ ∀ q, q < l.length → c (nth l i) ≤ c (nth l q) := by
  have hl : 0 < l.length := by
    cases l with
    | nil => exact absurd rfl hne
    | cons x l => simp
  have := arg_first (c := c) h0 hl (Nat.le_refl _)
  rwa [List.take_length] at this
/-- what the reference keeps: a place and its value -/
def argP (g : Int) : Int := if g < 0 then 0 else g
def argV (c : Int → Int) (g : Int) : Int := if g < 0 then -1 else c g
theorem argP_step {c : Int → Int} {g t : Int} (ht : 0 ≤ t) (hg : 0 ≤ g → 0 ≤ c g) :
    (argV c g < 0 ∨ c t < argV c g → argP (argStep c g t) = t ∧ argV c (argStep c g t) = c t) ∧
    (¬ (argV c g < 0 ∨ c t < argV c g) → argP (argStep c g t) = argP g ∧ argV c (argStep c g t) = argV c g) := by
  by_cases h : g < 0
  · have e : argStep c g t = t := if_pos (.inl h)
    have e2 : argV c g = -1 := if_pos h
    rw [e, e2]
    exact ⟨fun _ => ⟨if_neg (by omega), if_neg (by omega)⟩, fun h' => absurd (.inl (by omega)) h'⟩
  · have hc := hg (by omega)
    have e2 : argV c g = c g := if_neg h
    rw [e2]
    by_cases h2 : c t < c g
    · have e : argStep c g t = t := if_pos (.inr h2)
      rw [e]
      exact ⟨fun _ => ⟨if_neg (by omega), if_neg (by omega)⟩, fun h' => absurd (.inr h2) h'⟩
    · have e : argStep c g t = g := if_neg (by omega)
      rw [e]
      exact ⟨fun h' => by omega, fun _ => ⟨rfl, e2⟩⟩

/-- the greedy state for a request r in the state s -/
def greedyAt (M S : List (List Int)) (s r : Int) : Int := (servedL (row S r.toNat)).foldl (argStep (stepC M S r s)) (-1)
def greedyL (M S : List (List Int)) : List (List Int) := (List.range M.length).map fun s : Nat => (List.range S.length).map fun r : Nat => greedyAt M S s r
def lazyAt (M S : List (List Int)) (s r : Int) : Int := if 0 ≤ cell S r.toNat s.toNat then s else greedyAt M S s r
def lazyL (M S : List (List Int)) : List (List Int) := (List.range M.length).map fun s : Nat => (List.range S.length).map fun r : Nat => lazyAt M S s r
theorem arg_in {M S : List (List Int)} (hp : probB M S = true) {c : Int → Int} {r : Nat} (hr : r < S.length) :
    let g := (servedL (row S r)).foldl (argStep c) (-1)
    0 ≤ g ∧ g.toNat < M.length ∧ 0 ≤ cell S r g.toNat := by
  have hne := servedL_ne (probB_row hp hr).2.2
  obtain ⟨i, hi, e, _⟩ := arg_all (c := c) (fun s hs => (servedL_lt hs).1) hne
  show 0 ≤ (servedL (row S r)).foldl (argStep c) (-1) ∧ _
  rw [e]
  have := servedL_lt (nth_mem hi)
  rw [(probB_row hp hr).1] at this
  exact this

/-- the value of a state for the requests from a place on -/
def bestC (M S : List (List Int)) (at_ r : Int) (rest : List Int) (t : Int) : Int := stepC M S r at_ t + optL M S (row M t.toNat) rest
def bestAt (M S : List (List Int)) (at_ r : Int) (rest : List Int) : Int := (servedL (row S r.toNat)).foldl (argStep (bestC M S at_ r rest)) (-1)
def bsAt (M S : List (List Int)) (s : Int) (X : List Int) : Nat → Int
  | 0 => s
  | k + 1 => bestAt M S (bsAt M S s X k) (nth X k) (X.drop (k + 1))
def bsTo (M S : List (List Int)) (s : Int) (X : List Int) (k : Nat) : List Int := (List.range k).map fun i => bsAt M S s X (i + 1)
def bestS (M S : List (List Int)) (s : Int) (X : List Int) : List Int := if startB M S s X = true then bsTo M S s X X.length else []
theorem bsTo_succ (M S : List (List Int)) (s : Int) (X : List Int) (k : Nat) : bsTo M S s X (k + 1) = bsTo M S s X k ++ [bsAt M S s X (k + 1)] := by simp [bsTo, List.range_succ]
theorem bsTo_length (M S : List (List Int)) (s : Int) (X : List Int) (k : Nat) : (bsTo M S s X k).length = k := by simp [bsTo]
theorem bsAt_in {M S : List (List Int)} {s : Int} {X : List Int} (h : startB M S s X = true) : ∀ {k : Nat}, k ≤ X.length → 0 ≤ bsAt M S s X k ∧ bsAt M S s X k < M.length
  | 0, _ => startB_state h
  | k + 1, hk => by
    have hr := startB_req h (k := k) (by omega)
    have := arg_in (startB_prob h) (c := bestC M S (bsAt M S s X k) (nth X k) (X.drop (k + 1))) (r := (nth X k).toNat) (by omega)
    have h2 : 0 ≤ bsAt M S s X (k + 1) ∧ (bsAt M S s X (k + 1)).toNat < M.length := ⟨this.1, this.2.1⟩
    omega
theorem drop_cons_nth {X : List Int} {k : Nat} (h : k < X.length) : X.drop k = nth X k :: X.drop (k + 1) := by
  rw [List.drop_eq_getElem_cons h]
  simp [nth, h]
theorem mem_drop_in {M S : List (List Int)} {s : Int} {X : List Int} (h : startB M S s X = true) (k : Nat) : ∀ x ∈ X.drop k, 0 ≤ x ∧ x < S.length := by
  intro x hx
  obtain ⟨j, hj, rfl⟩ := mem_iff_nth.1 (List.mem_of_mem_drop hx)
  exact startB_req h hj
/-- the least cost of the requests from k on, from a state on, is what the program's table has -/
theorem left_eq {M S : List (List Int)} {s : Int} {X : List Int} (h : startB M S s X = true) {k : Nat} (hk : k < X.length) {from_ : Nat} (hf : from_ < M.length) :
    (servedL (row S (nth X k).toNat)).foldl (minB (bestC M S from_ (nth X k) (X.drop (k + 1)))) 1073741824 = optL M S (row M from_) (X.drop k) := by
  have hp := startB_prob h
  have hl := startB_len h
  have hr := startB_req h hk
  rw [drop_cons_nth hk]
  have h1 := opt_step hp hf hr (mem_drop_in h (k + 1)) (by rw [List.length_drop]; omega)
  have hne := servedL_ne (probB_row hp (k := (nth X k).toNat) (by omega)).2.2
  refine (IsMin.uniq (l := servedL (row S (nth X k).toNat)) (f := bestC M S from_ (nth X k) (X.drop (k + 1))) ?_ h1)
  refine foldB_min hne fun t ht => ?_
  have ht' := servedL_lt ht
  rw [(probB_row hp (by omega)).1] at ht'
  have b1 := probB_move hp hf ht'.2.1
  have b2 := probB_serve hp (k := (nth X k).toNat) (by omega) ht'.2.1
  have hok := workTo_ok hp (row_ok hp ht'.2.1) (X := X.drop (k + 1)) (k := (X.drop (k + 1)).length) (fun j hj => by
    have := mem_drop_in h (k + 1) _ (nth_mem hj)
    omega) (Nat.le_refl _) (by rw [List.length_drop]; omega)
  have hn := probB_len hp
  have hne2 : workL M S (row M t.toNat) (X.drop (k + 1)) ≠ [] := by
    intro e
    have := hok.1
    rw [show workTo M S (row M t.toNat) (X.drop (k + 1)) (X.drop (k + 1)).length = [] from e] at this
    simp at this
    omega
  obtain ⟨⟨c, hc, e⟩, _⟩ := leastL_min hne2
  obtain ⟨j, hj, rfl⟩ := mem_iff_nth.1 hc
  have hj' : j < M.length := by rw [← hok.1]; exact hj
  have h3 := hok.2 j hj'
  have e' : optL M S (row M t.toNat) (X.drop (k + 1)) = nth (workTo M S (row M t.toNat) (X.drop (k + 1)) (X.drop (k + 1)).length) j := e
  unfold bestC stepC
  rw [e', Int.toNat_natCast]
  rw [List.length_drop] at h3 ⊢
  omega

end Go.Proofs.YtmgcfnciejfpbaaGreat
