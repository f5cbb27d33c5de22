/- Best matchings: the search by prices, row by row. -/
import Derived.Test.YtllfchcocgdcjaaGreatAsR
namespace Go.Proofs.YtllfchcocgdcjaaGreat
open Go.RowKit

/-- rows of a table that differ have room: no more rows than columns -/
theorem pig {f : Nat → Nat} {n k : Nat} (hf : ∀ i, i < n → f i < k) (hi : ∀ i j, i < n → j < n → f i = f j → i = j) : n ≤ k := by
  have h := (sg_inj (f := f) (m := k) (n := n) (q := fun _ => 1) hf hi (fun _ _ => by omega)).1
  have h2 : ∀ n : Nat, sgTo (fun _ => (1 : Int)) n = n := fun n => by
    induction n with
    | zero => rfl
    | succ n ih => rw [sgTo, ih]; omega
  have h3 : sgTo (fun i => (fun _ => (1 : Int)) (f i)) n = sgTo (fun _ => (1 : Int)) n := rfl
  rw [h3, h2, h2] at h
  omega
/-- prices u, rents - v and rows of columns behind i rows (rows and columns from 1 on; cc their costs) -/
structure HS (cc : Nat → Nat → Int) (n m i : Nat) (u v : Nat → Int) (ro : Nat → Nat) : Prop where
  feas : ∀ r j, 1 ≤ r → r ≤ n → 1 ≤ j → j ≤ m → u r + v j ≤ cc r j
  u0 : ∀ r, i < r → r ≤ n → u r = 0
  upos : ∀ r, 1 ≤ r → r ≤ n → 0 ≤ u r
  vneg : ∀ j, 1 ≤ j → j ≤ m → v j ≤ 0
  free : ∀ j, 1 ≤ j → j ≤ m → ro j = 0 → v j = 0
  tight : ∀ j, 1 ≤ j → j ≤ m → ro j ≠ 0 → u (ro j) + v j = cc (ro j) j
  rows : ∀ j, 1 ≤ j → j ≤ m → ro j ≤ i
  inj : ∀ j k, 1 ≤ j → j ≤ m → 1 ≤ k → k ≤ m → ro j ≠ 0 → ro j = ro k → j = k
  surj : ∀ r, 1 ≤ r → r ≤ i → ∃ j, 1 ≤ j ∧ j ≤ m ∧ ro j = r
  v0 : v 0 ≤ 0 ∧ -(1073741824 * (i : Int)) ≤ v 0
  umax : ∀ r, 1 ≤ r → r ≤ n → u r ≤ 1073741824
/-- within the stage of row i: us the columns that are used, at' the one that comes next, rk the order -/
structure HI (cc : Nat → Nat → Int) (n m i : Nat) (u v : Nat → Int) (ro wy : Nat → Nat) (le : Nat → Int) (us : Nat → Bool) (at' : Nat) (rk : Nat → Nat) : Prop where
  feas : ∀ r j, 1 ≤ r → r ≤ n → 1 ≤ j → j ≤ m → u r + v j ≤ cc r j
  u0 : ∀ r, i < r → r ≤ n → u r = 0
  upos : ∀ r, 1 ≤ r → r ≤ n → 0 ≤ u r
  vneg : ∀ j, 1 ≤ j → j ≤ m → v j ≤ 0
  free : ∀ j, 1 ≤ j → j ≤ m → ro j = 0 → v j = 0
  tight : ∀ j, 1 ≤ j → j ≤ m → ro j ≠ 0 → u (ro j) + v j = cc (ro j) j
  rows : ∀ j, 1 ≤ j → j ≤ m → ro j < i
  inj : ∀ j k, 1 ≤ j → j ≤ m → 1 ≤ k → k ≤ m → ro j ≠ 0 → ro j = ro k → j = k
  surj : ∀ r, 1 ≤ r → r < i → ∃ j, 1 ≤ j ∧ j ≤ m ∧ ro j = r
  v0 : v 0 ≤ 0 ∧ -(1073741824 * ((i : Int) - 1)) - u i ≤ v 0
  top : ro 0 = i
  atm : at' ≤ m
  atu : us at' = false
  first : us 0 = false → at' = 0 ∧ ∀ j, j ≤ m → us j = false
  full : ∀ j, j ≤ m → us j = true → ro j ≠ 0
  tree : ∀ j, 1 ≤ j → j ≤ m → us j = true ∨ j = at' → wy j ≤ m ∧ us (wy j) = true ∧ rk (wy j) < rk j ∧ u (ro (wy j)) + v j = cc (ro (wy j)) j
  low : ∀ j k, 1 ≤ j → j ≤ m → us j = false → k ≤ m → us k = true → le j ≤ cc (ro k) j - u (ro k) - v j
  way : ∀ j, 1 ≤ j → j ≤ m → us j = false → us 0 = true → wy j ≤ m ∧ us (wy j) = true ∧ le j = cc (ro (wy j)) j - u (ro (wy j)) - v j
  none : us 0 = false → ∀ j, 1 ≤ j → j ≤ m → le j = 1152921504606846976
section
variable {cc : Nat → Nat → Int} {n m i : Nat} {u v : Nat → Int} {ro wy : Nat → Nat} {le : Nat → Int} {us : Nat → Bool} {at' : Nat} {rk : Nat → Nat}
/-- a column is free -/
theorem free_col (hm : n ≤ m) (hi : 1 ≤ i) (hin : i ≤ n) (rows : ∀ j, 1 ≤ j → j ≤ m → ro j < i) (inj : ∀ j k, 1 ≤ j → j ≤ m → 1 ≤ k → k ≤ m → ro j ≠ 0 → ro j = ro k → j = k) : ∃ j, 1 ≤ j ∧ j ≤ m ∧ ro j = 0 := by
  refine Classical.byContradiction fun h => ?_
  have h1 : ∀ j, 1 ≤ j → j ≤ m → ro j ≠ 0 := fun j h1 h2 h3 => h ⟨j, h1, h2, h3⟩
  have := pig (f := fun j => ro (j + 1) - 1) (n := m) (k := i - 1) (fun j hj => by
    show ro (j + 1) - 1 < i - 1
    have := h1 (j + 1) (by omega) (by omega)
    have := rows (j + 1) (by omega) (by omega)
    omega) (fun j k hj hk e => by
    have e' : ro (j + 1) - 1 = ro (k + 1) - 1 := e
    have a1 := h1 (j + 1) (by omega) (by omega)
    have a2 := h1 (k + 1) (by omega) (by omega)
    have := inj (j + 1) (k + 1) (by omega) (by omega) (by omega) (by omega) a1 (by omega)
    omega)
  omega
theorem HI.start (h : HS cc n m (i - 1) u v ro) (hi : 1 ≤ i) (hin : i ≤ n) : HI cc n m i u v (updN ro 0 i) (fun _ => 0) (fun _ => 1152921504606846976) (fun _ => false) 0 (fun _ => 0) := by
  have hv : ∀ j, 1 ≤ j → updN ro 0 i j = ro j := fun j hj => if_neg (by omega)
  have hu := h.u0 i (by omega) hin
  refine ⟨h.feas, fun r h1 h2 => h.u0 r (by omega) h2, h.upos, h.vneg, fun j h1 h2 h3 => h.free j h1 h2 (by rw [← hv j h1]; exact h3), fun j h1 h2 h3 => by rw [hv j h1] at h3 ⊢; exact h.tight j h1 h2 h3, fun j h1 h2 => by rw [hv j h1]; have := h.rows j h1 h2; omega,
    fun j k h1 h2 h3 h4 h5 h6 => by rw [hv j h1] at h5 h6; rw [hv k h3] at h6; exact h.inj j k h1 h2 h3 h4 h5 h6, fun r h1 h2 => ?_, ?_, if_pos rfl, (by omega), rfl, fun _ => ⟨rfl, fun _ _ => rfl⟩, fun _ _ h => (by cases h), fun j h1 _ h2 => ?_, fun _ _ _ _ _ _ h => (by cases h), fun _ _ _ _ h => (by cases h), fun _ _ _ _ => rfl⟩
  · obtain ⟨j, a1, a2, a3⟩ := h.surj r h1 (by omega)
    exact ⟨j, a1, a2, by rw [hv j a1]; exact a3⟩
  · have := h.v0
    rw [hu]
    omega
  · rcases h2 with h2 | h2
    · cases h2
    · exfalso; omega
/-- all prices and rents lie in a range -/
theorem HI.range (h : HI cc n m i u v ro wy le us at' rk) (hm : n ≤ m) (hi : 1 ≤ i) (hin : i ≤ n) (hc : ∀ r j, 1 ≤ r → r ≤ n → 1 ≤ j → j ≤ m → 0 ≤ cc r j ∧ cc r j ≤ 1073741824) :
    (∀ r, 1 ≤ r → r ≤ n → 0 ≤ u r ∧ u r ≤ 1073741824) ∧ ∀ j, 1 ≤ j → j ≤ m → -1073741824 ≤ v j ∧ v j ≤ 0 := by
  obtain ⟨f, f1, f2, f3⟩ := free_col hm hi hin h.rows h.inj
  have f4 := h.free f f1 f2 f3
  have hu : ∀ r, 1 ≤ r → r ≤ n → 0 ≤ u r ∧ u r ≤ 1073741824 := fun r h1 h2 => by
    have a1 := h.feas r f h1 h2 f1 f2
    have a2 := hc r f h1 h2 f1 f2
    have a3 := h.upos r h1 h2
    omega
  refine ⟨hu, fun j h1 h2 => ⟨?_, h.vneg j h1 h2⟩⟩
  by_cases e : ro j = 0
  · rw [h.free j h1 h2 e]; omega
  · have a1 := h.tight j h1 h2 e
    have a2 := h.rows j h1 h2
    have a3 := hu (ro j) (by omega) (by omega)
    have a4 := hc (ro j) j (by omega) (by omega) h1 h2
    omega
/-- the first pass: the column at' is used; least differences le2 with their columns wy2 -/
structure HP (cc : Nat → Nat → Int) (m : Nat) (u v : Nat → Int) (ro wy : Nat → Nat) (le : Nat → Int) (us : Nat → Bool) (at' : Nat) (wy2 : Nat → Nat) (le2 : Nat → Int) (d : Int) (to : Nat) (t : Nat) : Prop where
  done : ∀ j, 1 ≤ j → j < t → us j = false → j ≠ at' → (cc (ro at') j - u (ro at') - v j < le j → le2 j = cc (ro at') j - u (ro at') - v j ∧ wy2 j = at') ∧ (le j ≤ cc (ro at') j - u (ro at') - v j → le2 j = le j ∧ wy2 j = wy j)
  rest : ∀ j, t ≤ j ∨ us j = true ∨ j = at' → le2 j = le j ∧ wy2 j = wy j
  least : ∀ j, 1 ≤ j → j < t → us j = false → j ≠ at' → d ≤ le2 j
  hit : (to = 0 ∧ d = 1152921504606846976) ∨ (1 ≤ to ∧ to < t ∧ us to = false ∧ to ≠ at' ∧ d = le2 to)
theorem HP.start : HP cc m u v ro wy le us at' wy le 1152921504606846976 0 1 :=
  ⟨fun j h1 h2 => by omega, fun _ _ => ⟨rfl, rfl⟩, fun j h1 h2 => by omega, Or.inl ⟨rfl, rfl⟩⟩
theorem HP.skip {wy2 : Nat → Nat} {le2 : Nat → Int} {d : Int} {to t : Nat} (h : HP cc m u v ro wy le us at' wy2 le2 d to t) (hu : us t = true ∨ t = at') : HP cc m u v ro wy le us at' wy2 le2 d to (t + 1) := by
  refine ⟨fun j h1 h2 h3 h4 => ?_, fun j hj => ?_, fun j h1 h2 h3 h4 => ?_, ?_⟩
  · have : j ≠ t := fun e => by rw [e] at h3 h4; rcases hu with e1 | e1; rw [h3] at e1; cases e1; exact h4 e1
    exact h.done j h1 (by omega) h3 h4
  · by_cases e : j = t
    · exact h.rest j (Or.inl (by omega))
    · rcases hj with e1 | e1
      · exact h.rest j (Or.inl (by omega))
      · exact h.rest j (Or.inr e1)
  · have : j ≠ t := fun e => by rw [e] at h3 h4; rcases hu with e1 | e1; rw [h3] at e1; cases e1; exact h4 e1
    exact h.least j h1 (by omega) h3 h4
  · rcases h.hit with h1 | ⟨h1, h2, h3⟩
    · exact Or.inl h1
    · exact Or.inr ⟨h1, by omega, h3⟩
theorem HP.next {wy2 : Nat → Nat} {le2 : Nat → Int} {d : Int} {to t : Nat} (h : HP cc m u v ro wy le us at' wy2 le2 d to t) (ht : 1 ≤ t) (hu : us t = false) (hta : t ≠ at')
    {wy3 : Nat → Nat} {le3 : Nat → Int} {d3 : Int} {to3 : Nat}
    (h1 : cc (ro at') t - u (ro at') - v t < le2 t → wy3 = updN wy2 t at' ∧ le3 = updI le2 t (cc (ro at') t - u (ro at') - v t))
    (h2 : le2 t ≤ cc (ro at') t - u (ro at') - v t → wy3 = wy2 ∧ le3 = le2)
    (h3 : le3 t < d → d3 = le3 t ∧ to3 = t) (h4 : d ≤ le3 t → d3 = d ∧ to3 = to) : HP cc m u v ro wy le us at' wy3 le3 d3 to3 (t + 1) := by
  have r0 := h.rest t (Or.inl (Nat.le_refl _))
  have key : (∀ j, j ≠ t → wy3 j = wy2 j ∧ le3 j = le2 j) ∧ ((cc (ro at') t - u (ro at') - v t < le t → le3 t = cc (ro at') t - u (ro at') - v t ∧ wy3 t = at') ∧ (le t ≤ cc (ro at') t - u (ro at') - v t → le3 t = le t ∧ wy3 t = wy t)) := by
    by_cases e : cc (ro at') t - u (ro at') - v t < le2 t
    · obtain ⟨e1, e2⟩ := h1 e
      rw [e1, e2]
      refine ⟨fun j hj => ⟨if_neg hj, if_neg hj⟩, fun _ => ⟨if_pos rfl, if_pos rfl⟩, fun h => by rw [r0.1] at e; omega⟩
    · obtain ⟨e1, e2⟩ := h2 (by omega)
      rw [e1, e2]
      exact ⟨fun j _ => ⟨rfl, rfl⟩, fun h => by rw [r0.1] at e; omega, fun _ => r0⟩
  obtain ⟨k1, k2⟩ := key
  refine ⟨fun j g1 g2 g3 g4 => ?_, fun j hj => ?_, fun j g1 g2 g3 g4 => ?_, ?_⟩
  · by_cases e : j = t
    · rw [e]; exact k2
    · rw [(k1 j e).1, (k1 j e).2]
      exact h.done j g1 (by omega) g3 g4
  · have e : j ≠ t := fun e => by
      rw [e] at hj
      rcases hj with e1 | e1 | e1
      · omega
      · rw [hu] at e1; cases e1
      · exact hta e1
    rw [(k1 j e).1, (k1 j e).2]
    rcases hj with e1 | e1
    · exact h.rest j (Or.inl (by omega))
    · exact h.rest j (Or.inr e1)
  · by_cases e3 : le3 t < d
    · rw [(h3 e3).1]
      by_cases e : j = t
      · rw [e]; omega
      · rw [(k1 j e).2]
        have := h.least j g1 (by omega) g3 g4
        omega
    · rw [(h4 (by omega)).1]
      by_cases e : j = t
      · rw [e]; omega
      · rw [(k1 j e).2]
        exact h.least j g1 (by omega) g3 g4
  · by_cases e3 : le3 t < d
    · obtain ⟨a1, a2⟩ := h3 e3
      rw [a2, a1]
      exact Or.inr ⟨ht, by omega, hu, hta, rfl⟩
    · obtain ⟨a1, a2⟩ := h4 (by omega)
      rw [a1, a2]
      rcases h.hit with b1 | ⟨b1, b2, b3, b4, b5⟩
      · exact Or.inl b1
      · refine Or.inr ⟨b1, by omega, b3, b4, ?_⟩
        rw [(k1 to (fun e => by omega)).2]; exact b5
/-- what the first pass has found: the least difference of all columns that are not used -/
theorem HP.fin (h : HI cc n m i u v ro wy le us at' rk) (hm : n ≤ m) (hi : 1 ≤ i) (hin : i ≤ n) (hc : ∀ r j, 1 ≤ r → r ≤ n → 1 ≤ j → j ≤ m → 0 ≤ cc r j ∧ cc r j ≤ 1073741824) (hra : ro at' ≠ 0)
    {wy2 : Nat → Nat} {le2 : Nat → Int} {d : Int} {to : Nat} (hp : HP cc m u v ro wy le us at' wy2 le2 d to (m + 1)) :
    (1 ≤ to ∧ to ≤ m ∧ us to = false ∧ to ≠ at' ∧ d = le2 to) ∧ (0 ≤ d ∧ d ≤ 2147483648) ∧ (∀ j, 1 ≤ j → j ≤ m → us j = false → j ≠ at' → d ≤ le2 j ∧ le2 j ≤ 2147483648 ∧
      (wy2 j ≤ m ∧ (us (wy2 j) = true ∨ wy2 j = at') ∧ le2 j = cc (ro (wy2 j)) j - u (ro (wy2 j)) - v j) ∧ ∀ k, k ≤ m → us k = true ∨ k = at' → le2 j ≤ cc (ro k) j - u (ro k) - v j) ∧
    ∀ j, us j = true ∨ j = at' → wy2 j = wy j := by
  obtain ⟨hu, hv⟩ := h.range hm hi hin hc
  have hrow : ∀ k, k ≤ m → 1 ≤ ro k ∨ ro k = 0 := fun k _ => by omega
  have hrn : ∀ k, k ≤ m → ro k ≤ n := fun k hk => by
    by_cases e : k = 0
    · rw [e, h.top]; exact hin
    · have := h.rows k (by omega) hk; omega
  have hj : ∀ j, 1 ≤ j → j ≤ m → us j = false → j ≠ at' → (wy2 j ≤ m ∧ (us (wy2 j) = true ∨ wy2 j = at') ∧ le2 j = cc (ro (wy2 j)) j - u (ro (wy2 j)) - v j) ∧ ∀ k, k ≤ m → us k = true ∨ k = at' → le2 j ≤ cc (ro k) j - u (ro k) - v j := by
    intro j h1 h2 h3 h4
    obtain ⟨g1, g2⟩ := hp.done j h1 (by omega) h3 h4
    by_cases e : cc (ro at') j - u (ro at') - v j < le j
    · obtain ⟨a1, a2⟩ := g1 e
      rw [a1, a2]
      refine ⟨⟨h.atm, Or.inr rfl, rfl⟩, fun k hk hku => ?_⟩
      rcases hku with hku | hku
      · have := h.low j k h1 h2 h3 hk hku; omega
      · rw [hku]; exact Int.le_refl _
    · obtain ⟨a1, a2⟩ := g2 (by omega)
      rw [a1, a2]
      cases e0 : us 0 with
      | false =>
        exfalso
        have b1 := h.none e0 j h1 h2
        have b2 := hrn at' h.atm
        have b3 := hc (ro at') j (by omega) b2 h1 h2
        have b4 := hu (ro at') (by omega) b2
        have b5 := hv j h1 h2
        omega
      | true =>
        obtain ⟨b1, b2, b3⟩ := h.way j h1 h2 h3 e0
        refine ⟨⟨b1, Or.inl b2, b3⟩, fun k hk hku => ?_⟩
        rcases hku with hku | hku
        · exact h.low j k h1 h2 h3 hk hku
        · rw [hku]; omega
  have hbd : ∀ j, 1 ≤ j → j ≤ m → us j = false → j ≠ at' → 0 ≤ le2 j ∧ le2 j ≤ 2147483648 := fun j h1 h2 h3 h4 => by
    obtain ⟨⟨a1, a2, a3⟩, _⟩ := hj j h1 h2 h3 h4
    have b0 : ro (wy2 j) ≠ 0 := by
      rcases a2 with a2 | a2
      · exact h.full _ a1 a2
      · rw [a2]; exact hra
    have b2 := hrn _ a1
    have b3 := hc (ro (wy2 j)) j (by omega) b2 h1 h2
    have b4 := hu (ro (wy2 j)) (by omega) b2
    have b5 := hv j h1 h2
    have b6 := h.feas (ro (wy2 j)) j (by omega) b2 h1 h2
    omega
  have hto : 1 ≤ to ∧ to ≤ m ∧ us to = false ∧ to ≠ at' ∧ d = le2 to := by
    rcases hp.hit with ⟨_, b1⟩ | ⟨b1, b2, b3⟩
    · exfalso
      obtain ⟨f, f1, f2, f3⟩ := free_col hm hi hin h.rows h.inj
      have f4 : us f = false := by
        cases e : us f with
        | false => rfl
        | true => exact absurd f3 (h.full f f2 e)
      have f5 : f ≠ at' := fun e => hra (by rw [← e]; exact f3)
      have := hp.least f f1 (by omega) f4 f5
      have := hbd f f1 f2 f4 f5
      omega
    · exact ⟨b1, by omega, b3⟩
  refine ⟨hto, ?_, fun j h1 h2 h3 h4 => ⟨hp.least j h1 (by omega) h3 h4, (hbd j h1 h2 h3 h4).2, hj j h1 h2 h3 h4⟩, fun j hj => (hp.rest j (Or.inr hj)).2⟩
  rw [hto.2.2.2.2]
  exact hbd to hto.1 hto.2.1 hto.2.2.1 hto.2.2.2.1
end
section
variable {cc : Nat → Nat → Int} {n m i : Nat} {u v : Nat → Int} {ro wy : Nat → Nat} {le : Nat → Int} {us : Nat → Bool} {at' : Nat} {rk : Nat → Nat}
def updB (f : Nat → Bool) (a : Nat) : Nat → Bool := fun i => if i = a then true else f i
/-- the second pass: what is used falls and rises by the difference -/
structure HQ (m : Nat) (u v : Nat → Int) (ro : Nat → Nat) (us : Nat → Bool) (le : Nat → Int) (d : Int) (u2 v2 : Nat → Int) (le2 : Nat → Int) (t : Nat) : Prop where
  urow : ∀ j, j < t → us j = true → u2 (ro j) = u (ro j) + d
  uold : ∀ r, (∀ j, j < t → us j = true → ro j ≠ r) → u2 r = u r
  vcol : ∀ j, v2 j = if j < t ∧ us j = true then v j - d else v j
  lcol : ∀ j, le2 j = if j < t ∧ us j = false then le j - d else le j
theorem HQ.start {d : Int} : HQ m u v ro us le d u v le 0 := ⟨fun j h => by omega, fun _ _ => rfl, fun j => by rw [if_neg (by omega)], fun j => by rw [if_neg (by omega)]⟩
theorem HQ.yes {d : Int} {u2 v2 le2 : Nat → Int} {t : Nat} (h : HQ m u v ro us le d u2 v2 le2 t) (hu : us t = true) (hinj : ∀ j, j < t → us j = true → ro j ≠ ro t) :
    u2 (ro t) = u (ro t) ∧ v2 t = v t ∧ HQ m u v ro us le d (updI u2 (ro t) (u (ro t) + d)) (updI v2 t (v t - d)) le2 (t + 1) := by
  have h1 := h.uold (ro t) hinj
  have h2 := h.vcol t
  rw [if_neg (by omega)] at h2
  refine ⟨h1, h2, fun j hj hju => ?_, fun r hr => ?_, fun j => ?_, fun j => ?_⟩
  · show (if ro j = ro t then _ else u2 (ro j)) = _
    by_cases e : j = t
    · rw [e, if_pos rfl]
    · rw [if_neg (hinj j (by omega) hju)]
      exact h.urow j (by omega) hju
  · show (if r = ro t then _ else u2 r) = _
    rw [if_neg fun e => hr t (by omega) hu e.symm]
    exact h.uold r fun j hj => hr j (by omega)
  · show (if j = t then _ else v2 j) = _
    by_cases e : j = t
    · rw [if_pos e, if_pos ⟨by omega, by rw [e]; exact hu⟩, e]
    · rw [if_neg e, h.vcol j]
      by_cases e2 : j < t ∧ us j = true
      · rw [if_pos e2, if_pos ⟨by omega, e2.2⟩]
      · rw [if_neg e2, if_neg fun e3 => e2 ⟨by omega, e3.2⟩]
  · rw [h.lcol j]
    by_cases e2 : j < t ∧ us j = false
    · rw [if_pos e2, if_pos ⟨by omega, e2.2⟩]
    · rw [if_neg e2, if_neg fun e3 => e2 ⟨by
        have : j ≠ t := fun e => by rw [e, hu] at e3; cases e3.2
        omega, e3.2⟩]
theorem HQ.no {d : Int} {u2 v2 le2 : Nat → Int} {t : Nat} (h : HQ m u v ro us le d u2 v2 le2 t) (hu : us t = false) :
    le2 t = le t ∧ HQ m u v ro us le d u2 v2 (updI le2 t (le t - d)) (t + 1) := by
  have h2 := h.lcol t
  rw [if_neg (by omega)] at h2
  have hne : ∀ j, j < t + 1 → us j = true → j < t := fun j hj hju => by
    have : j ≠ t := fun e => by rw [e, hu] at hju; cases hju
    omega
  refine ⟨h2, fun j hj hju => h.urow j (hne j hj hju) hju, fun r hr => h.uold r fun j hj => hr j (by omega), fun j => ?_, fun j => ?_⟩
  · rw [h.vcol j]
    by_cases e2 : j < t ∧ us j = true
    · rw [if_pos e2, if_pos ⟨by omega, e2.2⟩]
    · rw [if_neg e2, if_neg fun e3 => e2 ⟨hne j e3.1 e3.2, e3.2⟩]
  · show (if j = t then _ else le2 j) = _
    by_cases e : j = t
    · rw [if_pos e, if_pos ⟨by omega, by rw [e]; exact hu⟩, e]
    · rw [if_neg e, h.lcol j]
      by_cases e2 : j < t ∧ us j = false
      · rw [if_pos e2, if_pos ⟨by omega, e2.2⟩]
      · rw [if_neg e2, if_neg fun e3 => e2 ⟨by omega, e3.2⟩]
/-- used columns have rows of their own -/
theorem HI.inj2 (h : HI cc n m i u v ro wy le us at' rk) (hra : ro at' ≠ 0) : ∀ j k, j ≤ m → k ≤ m → updB us at' j = true → updB us at' k = true → ro j = ro k → j = k := by
  intro j k hj hk h1 h2 e
  have hf : ∀ j, j ≤ m → updB us at' j = true → ro j ≠ 0 := fun j hj h1 => by
    by_cases e : j = at'
    · rw [e]; exact hra
    · exact h.full j hj (by
        have h2 : (if j = at' then true else us j) = true := h1
        rw [if_neg e] at h2; exact h2)
  by_cases e1 : j = 0
  · by_cases e2 : k = 0
    · rw [e1, e2]
    · have := h.rows k (by omega) hk
      rw [← e, e1, h.top] at this
      omega
  · by_cases e2 : k = 0
    · have := h.rows j (by omega) hj
      rw [e, e2, h.top] at this
      omega
    · exact h.inj j k (by omega) hj (by omega) hk (hf j hj h1) e
/-- a round of the search: the column `to` comes next -/
theorem HI.step (h : HI cc n m i u v ro wy le us at' rk) (hm : n ≤ m) (hi : 1 ≤ i) (hin : i ≤ n) (hc : ∀ r j, 1 ≤ r → r ≤ n → 1 ≤ j → j ≤ m → 0 ≤ cc r j ∧ cc r j ≤ 1073741824) (hra : ro at' ≠ 0)
    {wy2 : Nat → Nat} {le2 : Nat → Int} {d : Int} {to : Nat} (hp : HP cc m u v ro wy le us at' wy2 le2 d to (m + 1)) {u2 v2 le3 : Nat → Int} (hq : HQ m u v ro (updB us at') le2 d u2 v2 le3 (m + 1)) :
    ∃ rk2, HI cc n m i u2 v2 ro wy2 le3 (updB us at') to rk2 := by
  obtain ⟨⟨t1, t2, t3, t4, t5⟩, ⟨d0, d1⟩, hj, hw⟩ := HP.fin h hm hi hin hc hra hp
  have hb : ∀ j, updB us at' j = true ↔ us j = true ∨ j = at' := fun j => by
    show (if j = at' then true else us j) = true ↔ _
    by_cases e : j = at'
    · simp [e]
    · simp [e]
  have hb2 : ∀ j, updB us at' j = false ↔ us j = false ∧ j ≠ at' := fun j => by
    show (if j = at' then true else us j) = false ↔ _
    by_cases e : j = at'
    · simp [e]
    · simp [e]
  have hinj := h.inj2 hra
  have h00 : updB us at' 0 = true := by
    rw [hb]
    cases e : us 0 with
    | true => exact Or.inl rfl
    | false => exact Or.inr (h.first e).1.symm
  have hfull : ∀ j, j ≤ m → updB us at' j = true → ro j ≠ 0 := fun j hj hu => by
    rcases (hb j).1 hu with e | e
    · exact h.full j hj e
    · rw [e]; exact hra
  have hrn : ∀ k, k ≤ m → ro k ≤ n := fun k hk => by
    by_cases e : k = 0
    · rw [e, h.top]; exact hin
    · have := h.rows k (by omega) hk; omega
  -- the new prices
  have hu2 : ∀ j, j ≤ m → updB us at' j = true → u2 (ro j) = u (ro j) + d := fun j hj hu => hq.urow j (by omega) hu
  have hu3 : ∀ r, (∀ j, j ≤ m → updB us at' j = true → ro j ≠ r) → u2 r = u r := fun r hr => hq.uold r fun j hj => hr j (by omega)
  have hv2 : ∀ j, j ≤ m → updB us at' j = true → v2 j = v j - d := fun j hj hu => by rw [hq.vcol j, if_pos ⟨by omega, hu⟩]
  have hv3 : ∀ j, updB us at' j = false → v2 j = v j := fun j hu => by rw [hq.vcol j, if_neg fun e => by rw [hu] at e; cases e.2]
  have hl3 : ∀ j, j ≤ m → updB us at' j = false → le3 j = le2 j - d := fun j hj hu => by rw [hq.lcol j, if_pos ⟨by omega, hu⟩]
  have hcase : ∀ r, (∃ j, j ≤ m ∧ updB us at' j = true ∧ ro j = r) ∨ ∀ j, j ≤ m → updB us at' j = true → ro j ≠ r := fun r => by
    by_cases e : ∃ j, j ≤ m ∧ updB us at' j = true ∧ ro j = r
    · exact Or.inl e
    · exact Or.inr fun j a b c => e ⟨j, a, b, c⟩
  have htw : rk (wy2 to) < rk (wy2 to) + 1 := Nat.lt_succ_self _
  refine ⟨updN rk to (rk (wy2 to) + 1), ?_, ?_, ?_, ?_, ?_, ?_, h.rows, h.inj, h.surj, ?_, h.top, t2, (hb2 to).2 ⟨t3, t4⟩, (fun e => by rw [h00] at e; cases e), hfull, ?_, ?_, ?_, (fun e => by rw [h00] at e; cases e)⟩
  · intro r j h1 h2 h3 h4
    have g := h.feas r j h1 h2 h3 h4
    cases hu : updB us at' j with
    | true =>
      rw [hv2 j h4 hu]
      rcases hcase r with ⟨k, k1, k2, k3⟩ | k
      · have := hu2 k k1 k2; rw [k3] at this; omega
      · rw [hu3 r k]; omega
    | false =>
      rw [hv3 j hu]
      rcases hcase r with ⟨k, k1, k2, k3⟩ | k
      · have a1 := hu2 k k1 k2
        rw [k3] at a1
        obtain ⟨b1, b2⟩ := (hb2 j).1 hu
        obtain ⟨c1, _, _, c2⟩ := hj j h3 h4 b1 b2
        have := c2 k k1 ((hb k).1 k2)
        rw [k3] at this
        omega
      · rw [hu3 r k]; exact g
  · intro r h1 h2
    rw [hu3 r fun j hj hu e => by
      by_cases e0 : j = 0
      · rw [e0, h.top] at e; omega
      · have := h.rows j (by omega) hj; omega]
    exact h.u0 r h1 h2
  · intro r h1 h2
    have g := h.upos r h1 h2
    rcases hcase r with ⟨k, k1, k2, k3⟩ | k
    · have := hu2 k k1 k2; rw [k3] at this; omega
    · rw [hu3 r k]; exact g
  · intro j h1 h2
    have g := h.vneg j h1 h2
    cases hu : updB us at' j with
    | true => rw [hv2 j h2 hu]; omega
    | false => rw [hv3 j hu]; exact g
  · intro j h1 h2 h3
    cases hu : updB us at' j with
    | true => exact absurd h3 (hfull j h2 hu)
    | false => rw [hv3 j hu]; exact h.free j h1 h2 h3
  · intro j h1 h2 h3
    have g := h.tight j h1 h2 h3
    cases hu : updB us at' j with
    | true => rw [hv2 j h2 hu, hu2 j h2 hu]; omega
    | false =>
      rw [hv3 j hu, hu3 (ro j)]
      · exact g
      · intro k k1 k2 k3
        by_cases e0 : k = 0
        · rw [e0, h.top] at k3
          have := h.rows j h1 h2
          omega
        · have := h.inj k j (by omega) k1 h1 h2 (hfull k k1 k2) k3
          rw [this, hu] at k2
          cases k2
  · have a1 := hv2 0 (by omega) h00
    have a2 := hu2 0 (by omega) h00
    rw [h.top] at a2
    have := h.v0
    omega
  · intro j h1 h2 h3
    by_cases e : j = to
    · subst e
      obtain ⟨_, _, ⟨b1, b2, b3⟩, _⟩ := hj j t1 t2 t3 t4
      have b4 := (hb (wy2 j)).2 b2
      have hne : wy2 j ≠ j := fun e => by rw [e] at b2; rcases b2 with b2 | b2; rw [t3] at b2; cases b2; exact t4 b2
      refine ⟨b1, b4, ?_, ?_⟩
      · show (if wy2 j = j then _ else rk (wy2 j)) < (if j = j then _ else _)
        rw [if_neg hne, if_pos rfl]; exact htw
      · rw [hu2 _ b1 b4, hv3 j ((hb2 j).2 ⟨t3, t4⟩)]
        omega
    · have h4 : us j = true ∨ j = at' := by
        rcases h3 with h3 | h3
        · exact (hb j).1 h3
        · exact absurd h3 e
      obtain ⟨c1, c2, c3, c4⟩ := h.tree j h1 h2 h4
      rw [hw j h4]
      have c5 := (hb (wy j)).2 (Or.inl c2)
      have hne : wy j ≠ to := fun e => by rw [e, t3] at c2; cases c2
      refine ⟨c1, c5, ?_, ?_⟩
      · show (if wy j = to then _ else rk (wy j)) < (if j = to then _ else rk j)
        rw [if_neg hne, if_neg e]; exact c3
      · rw [hu2 _ c1 c5, hv2 j h2 ((hb j).2 h4)]
        omega
  · intro j k h1 h2 h3 h4 h5
    obtain ⟨b1, b2⟩ := (hb2 j).1 h3
    obtain ⟨_, _, _, c⟩ := hj j h1 h2 b1 b2
    have := c k h4 ((hb k).1 h5)
    rw [hl3 j h2 h3, hu2 k h4 h5, hv3 j h3]
    omega
  · intro j h1 h2 h3 _
    obtain ⟨b1, b2⟩ := (hb2 j).1 h3
    obtain ⟨_, _, ⟨c1, c2, c3⟩, _⟩ := hj j h1 h2 b1 b2
    have c4 := (hb (wy2 j)).2 c2
    refine ⟨c1, c4, ?_⟩
    rw [hl3 j h2 h3, hu2 _ c1 c4, hv3 j h3]
    omega
/-- the rows of the columns while they are handed on; ho the column that waits -/
structure HA (cc : Nat → Nat → Int) (n m i : Nat) (u v : Nat → Int) (ro wy : Nat → Nat) (us : Nat → Bool) (rk : Nat → Nat) (ro2 : Nat → Nat) (ho : Nat) : Prop where
  hom : ho ≤ m
  tree : ho ≠ 0 → wy ho ≤ m ∧ us (wy ho) = true ∧ rk (wy ho) < rk ho ∧ u (ro (wy ho)) + v ho = cc (ro (wy ho)) ho
  old : ∀ j, rk j < rk ho → ro2 j = ro j
  rows : ∀ j, j ≤ m → j ≠ ho → ro2 j ≤ i
  inj : ∀ j k, j ≤ m → k ≤ m → j ≠ ho → k ≠ ho → ro2 j ≠ 0 → ro2 j = ro2 k → j = k
  surj : ∀ r, 1 ≤ r → r ≤ i → ∃ j, j ≤ m ∧ j ≠ ho ∧ ro2 j = r
  free : ∀ j, 1 ≤ j → j ≤ m → j ≠ ho → ro2 j = 0 → v j = 0
  tight : ∀ j, 1 ≤ j → j ≤ m → j ≠ ho → ro2 j ≠ 0 → u (ro2 j) + v j = cc (ro2 j) j
theorem HA.start (h : HI cc n m i u v ro wy le us at' rk) (h0 : at' ≠ 0) (hra : ro at' = 0) : HA cc n m i u v ro wy us rk ro at' := by
  refine ⟨h.atm, fun h1 => h.tree at' (by omega) h.atm (Or.inr rfl), fun _ _ => rfl, fun j hj _ => ?_, fun j k hj hk h1 h2 h3 e => ?_, fun r h1 h2 => ?_, fun j h1 h2 _ => h.free j h1 h2, fun j h1 h2 _ => h.tight j h1 h2⟩
  · by_cases e : j = 0
    · rw [e, h.top]; exact Nat.le_refl _
    · have := h.rows j (by omega) hj; omega
  · by_cases e1 : j = 0
    · by_cases e2 : k = 0
      · rw [e1, e2]
      · have := h.rows k (by omega) hk
        rw [← e, e1, h.top] at this
        omega
    · by_cases e2 : k = 0
      · have := h.rows j (by omega) hj
        rw [e, e2, h.top] at this
        omega
      · exact h.inj j k (by omega) hj (by omega) hk h3 e
  · by_cases e : r = i
    · exact ⟨0, by omega, fun e => h0 e.symm, by rw [e, h.top]⟩
    · obtain ⟨j, a1, a2, a3⟩ := h.surj r h1 (by omega)
      exact ⟨j, a2, fun e => by rw [e, hra] at a3; omega, a3⟩
theorem HA.step (h : HI cc n m i u v ro wy le us at' rk) {ro2 : Nat → Nat} {ho : Nat} (ha : HA cc n m i u v ro wy us rk ro2 ho) (h0 : ho ≠ 0) :
    HA cc n m i u v ro wy us rk (updN ro2 ho (ro2 (wy ho))) (wy ho) ∧ rk (wy ho) < rk ho := by
  obtain ⟨t1, t2, t3, t4⟩ := ha.tree h0
  have hne : wy ho ≠ ho := fun e => by rw [e] at t3; omega
  have hv : ∀ j, updN ro2 ho (ro2 (wy ho)) j = if j = ho then ro2 (wy ho) else ro2 j := fun _ => rfl
  have ho1 := ha.old _ t3
  have hn0 := h.full _ t1 t2
  refine ⟨⟨t1, fun e => ?_, fun j hj => ?_, fun j h1 h2 => ?_, fun j k hj hk h1 h2 h3 e => ?_, fun r h1 h2 => ?_, fun j h1 h2 h3 h4 => ?_, fun j h1 h2 h3 h4 => ?_⟩, t3⟩
  · exact h.tree _ (by omega) t1 (Or.inl t2)
  · rw [hv, if_neg fun e => by rw [e] at hj; omega]
    exact ha.old j (by omega)
  · rw [hv]
    by_cases e : j = ho
    · rw [if_pos e]; exact ha.rows _ t1 hne
    · rw [if_neg e]; exact ha.rows j h1 e
  · rw [hv] at h3 e
    rw [hv] at e
    by_cases e1 : j = ho
    · rw [if_pos e1] at e h3
      by_cases e2 : k = ho
      · rw [e1, e2]
      · rw [if_neg e2] at e
        exact absurd (ha.inj _ k t1 hk hne e2 h3 e).symm h2
    · rw [if_neg e1] at e h3
      by_cases e2 : k = ho
      · rw [if_pos e2] at e
        exact absurd (ha.inj j _ hj t1 e1 hne h3 e) h1
      · rw [if_neg e2] at e
        exact ha.inj j k hj hk e1 e2 h3 e
  · obtain ⟨j, a1, a2, a3⟩ := ha.surj r h1 h2
    by_cases e : j = wy ho
    · refine ⟨ho, ha.hom, hne.symm, ?_⟩
      rw [hv, if_pos rfl, ← e]; exact a3
    · refine ⟨j, a1, e, ?_⟩
      rw [hv, if_neg a2]; exact a3
  · rw [hv] at h4
    by_cases e : j = ho
    · rw [if_pos e, ho1] at h4
      exact absurd h4 hn0
    · rw [if_neg e] at h4
      exact ha.free j h1 h2 e h4
  · rw [hv] at h4 ⊢
    by_cases e : j = ho
    · rw [if_pos e, ho1, e]; exact t4
    · rw [if_neg e] at h4 ⊢
      exact ha.tight j h1 h2 e h4
/-- the end of a stage -/
theorem HA.end (h : HI cc n m i u v ro wy le us at' rk) (hm : n ≤ m) (hi : 1 ≤ i) (hin : i ≤ n) (hc : ∀ r j, 1 ≤ r → r ≤ n → 1 ≤ j → j ≤ m → 0 ≤ cc r j ∧ cc r j ≤ 1073741824) {ro2 : Nat → Nat} (ha : HA cc n m i u v ro wy us rk ro2 0) : HS cc n m i u v ro2 := by
  have hui := (h.range hm hi hin hc).1 i hi hin
  refine ⟨h.feas, h.u0, h.upos, h.vneg, fun j h1 h2 => ha.free j h1 h2 (by omega), fun j h1 h2 => ha.tight j h1 h2 (by omega), fun j h1 h2 => ha.rows j h2 (by omega), fun j k h1 h2 h3 h4 h5 e => ha.inj j k h2 h4 (by omega) (by omega) h5 e, fun r h1 h2 => ?_, ?_, ?_⟩
  · obtain ⟨j, a1, a2, a3⟩ := ha.surj r h1 h2
    exact ⟨j, by omega, a1, a3⟩
  · have := h.v0
    omega
  · exact fun r h1 h2 => ((h.range hm hi hin hc).1 r h1 h2).2
/-- the columns of the rows behind all stages, and that prices and rents pay for them -/
theorem HS.fin {c : Nat → Nat → Int} (h : HS (fun r j => c (r - 1) (j - 1)) n m n u v ro) {f : Nat → Nat} (hf : ∀ j, 1 ≤ j → j ≤ m → ro j ≠ 0 → f (ro j - 1) = j - 1) :
    Mtc (fun _ _ => True) n m f ∧ Cert (fun _ _ => True) c n m f (fun r => u (r + 1)) (fun l => - v (l + 1)) ∧
    sgTo (fun l => if ro (l + 1) ≠ 0 then c (ro (l + 1) - 1) l else 0) m = mcost c f n := by
  have hex : ∀ r, r < n → f r < m ∧ ro (f r + 1) = r + 1 := fun r hr => by
    obtain ⟨j, a1, a2, a3⟩ := h.surj (r + 1) (by omega) (by omega)
    have := hf j a1 a2 (by omega)
    rw [a3, Nat.add_sub_cancel] at this
    rw [this, show j - 1 + 1 = j by omega]
    exact ⟨by omega, a3⟩
  have hm : Mtc (fun _ _ => True) n m f := ⟨fun r hr => ⟨(hex r hr).1, trivial⟩, fun r s hr hs e => by
    have a1 := (hex r hr).2
    have a2 := (hex s hs).2
    rw [e] at a1
    omega⟩
  have hcst : ∀ r, r < n → (fun l => if ro (l + 1) ≠ 0 then c (ro (l + 1) - 1) l else 0) (f r) = c r (f r) := fun r hr => by
    have a := (hex r hr).2
    show (if ro (f r + 1) ≠ 0 then c (ro (f r + 1) - 1) (f r) else 0) = _
    rw [a, if_pos (by omega)]
    rfl
  refine ⟨hm, ⟨⟨fun l hl => ?_, fun r l hr hl _ => ?_⟩, fun r hr => ?_, fun l hl hne => ?_⟩, ?_⟩
  · have := h.vneg (l + 1) (by omega) (by omega)
    show 0 ≤ - v (l + 1)
    omega
  · have := h.feas (r + 1) (l + 1) (by omega) (by omega) (by omega) (by omega)
    have e : c (r + 1 - 1) (l + 1 - 1) = c r l := rfl
    rw [e] at this
    show u (r + 1) - - v (l + 1) ≤ c r l
    omega
  · obtain ⟨a1, a2⟩ := hex r hr
    have := h.tight (f r + 1) (by omega) (by omega) (by omega)
    rw [a2] at this
    have e : c (r + 1 - 1) (f r + 1 - 1) = c r (f r) := rfl
    rw [e] at this
    show u (r + 1) - - v (f r + 1) = c r (f r)
    omega
  · have : ro (l + 1) = 0 := by
      refine Classical.byContradiction fun e => ?_
      have a1 := hf (l + 1) (by omega) (by omega) e
      have a2 := h.rows (l + 1) (by omega) (by omega)
      exact hne (ro (l + 1) - 1) (by omega) (by rw [a1]; rfl)
    have := h.free (l + 1) (by omega) (by omega) this
    show - v (l + 1) = 0
    omega
  · have h1 : mcost c f n = sgTo (fun r => (fun l => if ro (l + 1) ≠ 0 then c (ro (l + 1) - 1) l else 0) (f r)) n := sgTo_congr fun r hr => (hcst r hr).symm
    rw [h1]
    -- the sum over the columns is that over the rows: by pieces above and below
    have key : ∀ q : Nat → Int, (∀ l, l < m → 0 ≤ q l) → (∀ l, l < m → (∀ r, r < n → f r ≠ l) → q l = 0) → sgTo (fun r => q (f r)) n = sgTo q m := fun q h0 h2 => (sg_inj (fun r hr => (hex r hr).1) hm.2 h0).2 h2
    have hz : ∀ l, l < m → (∀ r, r < n → f r ≠ l) → ro (l + 1) = 0 := fun l hl hne => by
      refine Classical.byContradiction fun e => ?_
      have a1 := hf (l + 1) (by omega) (by omega) e
      have a2 := h.rows (l + 1) (by omega) (by omega)
      exact hne (ro (l + 1) - 1) (by omega) (by rw [a1]; rfl)
    let g : Nat → Int := fun l => if ro (l + 1) ≠ 0 then c (ro (l + 1) - 1) l else 0
    have kp := key (fun l => max (g l) 0) (fun l _ => by show 0 ≤ max (g l) 0; omega) (fun l hl hne => by show max (g l) 0 = 0; simp only [g]; rw [hz l hl hne]; rfl)
    have kn := key (fun l => max (- g l) 0) (fun l _ => by show 0 ≤ max (- g l) 0; omega) (fun l hl hne => by show max (- g l) 0 = 0; simp only [g]; rw [hz l hl hne]; rfl)
    have e1 : sgTo g m = sgTo (fun l => max (g l) 0) m - sgTo (fun l => max (- g l) 0) m := by
      rw [← sg_sub]; exact sgTo_congr fun l _ => by omega
    have e2 : sgTo (fun r => g (f r)) n = sgTo (fun r => max (g (f r)) 0) n - sgTo (fun r => max (- g (f r)) 0) n := by
      rw [← sg_sub]; exact sgTo_congr fun l _ => by omega
    show sgTo g m = sgTo (fun r => g (f r)) n
    have kp' : sgTo (fun r => max (g (f r)) 0) n = sgTo (fun l => max (g l) 0) m := kp
    have kn' : sgTo (fun r => max (- g (f r)) 0) n = sgTo (fun l => max (- g l) 0) m := kn
    rw [e1, e2, kp', kn']
end
end Go.Proofs.YtllfchcocgdcjaaGreat
