/- Spanning trees: the edges taken in ascending order; in plain words. -/
import Derived.Test.YtnlbjbnjjkilhaaTrP
namespace Go.Proofs.Ytnlbjbnjjkilhaa

/-- joined by edges -/
inductive Cn (E : List (Nat × Nat)) : Nat → Nat → Prop
  | refl (x : Nat) : Cn E x x
  | step {x y z : Nat} : Cn E x y → ((y, z) ∈ E ∨ (z, y) ∈ E) → Cn E x z
section
variable {E F : List (Nat × Nat)} {x y z w : Nat}
theorem Cn.trans (h : Cn E x y) (k : Cn E y z) : Cn E x z := by
  induction k with
  | refl => exact h
  | step _ e ih => exact .step ih e
theorem Cn.edge (h : (x, y) ∈ E ∨ (y, x) ∈ E) : Cn E x y := .step (.refl x) h
theorem Cn.symm (h : Cn E x y) : Cn E y x := by
  induction h with
  | refl => exact .refl _
  | step _ e ih => exact (Cn.edge e.symm).trans ih
theorem Cn.mono (h : Cn E x y) (hs : ∀ e, e ∈ E → e ∈ F) : Cn F x y := by
  induction h with
  | refl => exact .refl _
  | step _ e ih => exact .step ih (e.imp (hs _) (hs _))
/-- what is joined without an edge whose ends are joined anyway -/
theorem Cn.skip (h : Cn (E ++ [(x, y)]) z w) (hc : Cn E x y) : Cn E z w := by
  induction h with
  | refl => exact .refl _
  | step _ e ih =>
    refine ih.trans ?_
    simp only [List.mem_append, List.mem_singleton] at e
    rcases e with (e | e) | (e | e)
    · exact Cn.edge (.inl e)
    · cases e; exact hc
    · exact Cn.edge (.inr e)
    · cases e; exact hc.symm
/-- the edges that are taken: each that joins what is not joined yet -/
inductive Kr : List (Nat × Nat) → List (Nat × Nat) → Prop
  | nil : Kr [] []
  | skip {E T : List (Nat × Nat)} {x y : Nat} : Kr E T → Cn T x y → Kr (E ++ [(x, y)]) T
  | take {E T : List (Nat × Nat)} {x y : Nat} : Kr E T → ¬ Cn T x y → Kr (E ++ [(x, y)]) (T ++ [(x, y)])
theorem Kr.snoc {E T : List (Nat × Nat)} {x y : Nat} (h : Kr (E ++ [(x, y)]) T) : (Kr E T ∧ Cn T x y) ∨ ∃ T0, T = T0 ++ [(x, y)] ∧ Kr E T0 ∧ ¬ Cn T0 x y := by
  generalize hE : E ++ [(x, y)] = E1 at h
  cases h with
  | nil => simp at hE
  | skip h hc =>
    obtain ⟨rfl, e⟩ := List.append_inj' hE rfl
    cases e
    exact .inl ⟨h, hc⟩
  | take h hc =>
    obtain ⟨rfl, e⟩ := List.append_inj' hE rfl
    cases e
    exact .inr ⟨_, rfl, h, hc⟩
theorem Kr.of_nil {T : List (Nat × Nat)} (h : Kr [] T) : T = [] := by
  generalize hE : ([] : List (Nat × Nat)) = E1 at h
  cases h with
  | nil => rfl
  | skip h hc => simp at hE
  | take h hc => simp at hE
theorem snoc_ind {α : Type} {P : List α → Prop} (h0 : P []) (h1 : ∀ l a, P l → P (l ++ [a])) (l : List α) : P l := by
  have : ∀ n (l : List α), l.length = n → P l := by
    intro n
    induction n with
    | zero => intro l hl; rw [List.eq_nil_of_length_eq_zero hl]; exact h0
    | succ n ih =>
      intro l hl
      have hne : l ≠ [] := fun e => by rw [e] at hl; simp at hl
      rw [← List.dropLast_concat_getLast hne]
      exact h1 _ _ (ih _ (by rw [List.length_dropLast]; omega))
  exact this _ l rfl
theorem Kr.uniq : ∀ {T T' : List (Nat × Nat)}, Kr E T → Kr E T' → T = T' := by
  refine snoc_ind (P := fun E => ∀ {T T' : List (Nat × Nat)}, Kr E T → Kr E T' → T = T') ?_ ?_ E
  · intro T T' h h'
    rw [h.of_nil, h'.of_nil]
  · rintro l ⟨x, y⟩ ih T T' h h'
    rcases h.snoc with ⟨h1, h2⟩ | ⟨T0, rfl, h1, h2⟩
    · rcases h'.snoc with ⟨k1, k2⟩ | ⟨T1, rfl, k1, k2⟩
      · exact ih h1 k1
      · exact absurd (ih h1 k1 ▸ h2) k2
    · rcases h'.snoc with ⟨k1, k2⟩ | ⟨T1, rfl, k1, k2⟩
      · exact absurd (ih k1 h1 ▸ k2) h2
      · rw [ih h1 k1]
theorem Kr.sub : ∀ {T : List (Nat × Nat)}, Kr E T → ∀ e, e ∈ T → e ∈ E := by
  refine snoc_ind (P := fun E => ∀ {T : List (Nat × Nat)}, Kr E T → ∀ e, e ∈ T → e ∈ E) ?_ ?_ E
  · intro T h e he
    rw [h.of_nil] at he
    cases he
  · rintro l ⟨x, y⟩ ih T h e he
    rcases h.snoc with ⟨h1, _⟩ | ⟨T0, rfl, h1, _⟩
    · exact List.mem_append_left _ (ih h1 e he)
    · rcases List.mem_append.1 he with he | he
      · exact List.mem_append_left _ (ih h1 e he)
      · exact List.mem_append_right _ he
/-- the edges taken join all that the edges join -/
theorem Kr.joins : ∀ {T : List (Nat × Nat)}, Kr E T → ∀ {u v : Nat}, Cn E u v ↔ Cn T u v := by
  refine snoc_ind (P := fun E => ∀ {T : List (Nat × Nat)}, Kr E T → ∀ {u v : Nat}, Cn E u v ↔ Cn T u v) ?_ ?_ E
  · intro T h u v
    rw [h.of_nil]
  · rintro l ⟨x, y⟩ ih T h u v
    rcases h.snoc with ⟨h1, h2⟩ | ⟨T0, rfl, h1, h2⟩
    · refine ⟨fun k => (ih h1).1 (k.skip ((ih h1).2 h2)), fun k => ((ih h1).2 k).mono fun e he => List.mem_append_left _ he⟩
    · have gen : ∀ {A B : List (Nat × Nat)}, (∀ {a b : Nat}, Cn A a b → Cn B a b) → ∀ {a b : Nat}, Cn (A ++ [(x, y)]) a b → Cn (B ++ [(x, y)]) a b := by
        intro A B hAB a b k
        induction k with
        | refl => exact .refl _
        | step _ e ih =>
          refine ih.trans ?_
          simp only [List.mem_append, List.mem_singleton] at e
          rcases e with (e | e) | (e | e)
          · exact (hAB (Cn.edge (.inl e))).mono fun e he => List.mem_append_left _ he
          · cases e; exact Cn.edge (.inl (by simp))
          · exact (hAB (Cn.edge (.inr e))).mono fun e he => List.mem_append_left _ he
          · cases e; exact Cn.edge (.inr (by simp))
      exact ⟨gen fun k => (ih h1).1 k, gen fun k => (ih h1).2 k⟩
/-- beginnings of the edges take beginnings of what is taken -/
theorem Kr.begins : ∀ {T A : List (Nat × Nat)} (B : List (Nat × Nat)), Kr (A ++ B) T → ∃ T0 T1, T = T0 ++ T1 ∧ Kr A T0 ∧ ∀ e, e ∈ T1 → e ∈ B := by
  intro T A B
  refine snoc_ind (P := fun B => ∀ {T : List (Nat × Nat)}, Kr (A ++ B) T → ∃ T0 T1, T = T0 ++ T1 ∧ Kr A T0 ∧ ∀ e, e ∈ T1 → e ∈ B) ?_ ?_ B
  · intro T h
    rw [List.append_nil] at h
    exact ⟨T, [], by simp, h, by simp⟩
  · rintro l ⟨x, y⟩ ih T h
    rw [← List.append_assoc] at h
    rcases h.snoc with ⟨h1, _⟩ | ⟨T2, rfl, h1, _⟩
    · obtain ⟨T0, T1, e, k, m⟩ := ih h1
      exact ⟨T0, T1, e, k, fun q hq => List.mem_append_left _ (m q hq)⟩
    · obtain ⟨T0, T1, rfl, k, m⟩ := ih h1
      refine ⟨T0, T1 ++ [(x, y)], by rw [List.append_assoc], k, fun q hq => ?_⟩
      rcases List.mem_append.1 hq with hq | hq
      · exact List.mem_append_left _ (m q hq)
      · exact List.mem_append_right _ hq
/-- an edge that is taken, and what was taken ahead of it -/
theorem Kr.at : ∀ {T A B : List (Nat × Nat)} {e : Nat × Nat}, Kr E T → T = A ++ e :: B → ∃ E1 E2, E = E1 ++ e :: E2 ∧ Kr E1 A := by
  refine snoc_ind (P := fun E => ∀ {T A B : List (Nat × Nat)} {e : Nat × Nat}, Kr E T → T = A ++ e :: B → ∃ E1 E2, E = E1 ++ e :: E2 ∧ Kr E1 A) ?_ ?_ E
  · intro T A B e h he
    rw [h.of_nil] at he
    simp at he
  · rintro l ⟨x, y⟩ ih T A B e h he
    rcases h.snoc with ⟨h1, _⟩ | ⟨T0, rfl, h1, _⟩
    · obtain ⟨E1, E2, e1, k⟩ := ih h1 he
      exact ⟨E1, E2 ++ [(x, y)], by rw [e1]; simp, k⟩
    · rcases List.eq_nil_or_concat B with rfl | ⟨B', b, rfl⟩
      · obtain ⟨rfl, q⟩ := List.append_inj' he rfl
        cases q
        exact ⟨l, [], rfl, h1⟩
      · rw [List.concat_eq_append, ← List.cons_append, ← List.append_assoc] at he
        obtain ⟨q1, q2⟩ := List.append_inj' he rfl
        obtain ⟨E1, E2, e1, k⟩ := ih h1 q1
        exact ⟨E1, E2 ++ [(x, y)], by rw [e1]; simp, k⟩
/-- what is joined without a taken edge is at least as far apart as its ends -/
theorem Kr.cut {D : Nat → Nat → Int} {T A B : List (Nat × Nat)} {e : Nat × Nat} (h : Kr E T) (hT : T = A ++ e :: B) (hsy : ∀ u v, D u v = D v u)
    (hs : ∀ E1 E2, E = E1 ++ e :: E2 → ∀ q, q ∈ E2 → D e.1 e.2 ≤ D q.1 q.2) (hall : ∀ u v, u < v → v < w → (u, v) ∈ E) (hx : x < w) (hy : y < w)
    (hxs : Cn (A ++ B) e.1 x) (hys : ¬ Cn (A ++ B) e.1 y) : D e.1 e.2 ≤ D x y := by
  obtain ⟨E1, E2, hE, hk⟩ := h.at hT
  have hne : x ≠ y := fun q => hys (q ▸ hxs)
  have key : ∀ a b, (a, b) ∈ E → (a = x ∧ b = y ∨ a = y ∧ b = x) → D e.1 e.2 ≤ D a b := by
    intro a b hab hc
    rw [hE] at hab
    rcases List.mem_append.1 hab with h1 | h1
    · exfalso
      have c1 : Cn A a b := (hk.joins).1 (Cn.edge (.inl h1))
      have c2 : Cn (A ++ B) a b := c1.mono fun e he => List.mem_append_left _ he
      rcases hc with ⟨rfl, rfl⟩ | ⟨rfl, rfl⟩
      · exact hys (hxs.trans c2)
      · exact hys (hxs.trans c2.symm)
    · rcases List.mem_cons.1 h1 with rfl | h1
      · exact Int.le_refl _
      · exact hs E1 E2 hE _ h1
  rcases Nat.lt_or_gt_of_ne hne with q | q
  · exact key x y (hall x y q hy) (.inl ⟨rfl, rfl⟩)
  · rw [hsy x y]
    exact key y x (hall y x q hx) (.inr ⟨rfl, rfl⟩)
/-- names of the parts that edges join -/
structure Lab (E : List (Nat × Nat)) (n : Nat) (L : Nat → Nat) : Prop where
  lt : ∀ v, v < n → L v < n
  fix : ∀ v, v < n → L (L v) = L v
  le : ∀ v, v < n → L v ≤ v
  iff : ∀ u v, u < n → v < n → (Cn E u v ↔ L u = L v)
/-- how many parts -/
def fcn (L : Nat → Nat) : Nat → Nat
  | 0 => 0
  | n + 1 => fcn L n + (if L n = n then 1 else 0)
theorem fcn_id : ∀ {n : Nat}, fcn (fun v => v) n = n
  | 0 => rfl
  | n + 1 => by rw [fcn, fcn_id, if_pos rfl]
theorem fcn_congr {L L' : Nat → Nat} : ∀ {n : Nat}, (∀ v, v < n → (L v = v ↔ L' v = v)) → fcn L n = fcn L' n
  | 0, _ => rfl
  | n + 1, h => by
    rw [fcn, fcn, fcn_congr (n := n) fun v hv => h v (by omega)]
    have := h n (by omega)
    by_cases e : L n = n
    · rw [if_pos e, if_pos (this.1 e)]
    · rw [if_neg e, if_neg (fun q => e (this.2 q))]
theorem fcn_less {L L' : Nat → Nat} {a : Nat} : ∀ {n : Nat}, a < n → L a = a → L' a ≠ a → (∀ v, v < n → v ≠ a → (L v = v ↔ L' v = v)) → fcn L' n + 1 = fcn L n
  | 0, h, _, _, _ => by omega
  | n + 1, h, h1, h2, h3 => by
    rw [fcn, fcn]
    by_cases e : a = n
    · subst e
      rw [if_pos h1, if_neg h2, fcn_congr (L := L) (L' := L') fun v hv => h3 v (by omega) (by omega)]
    · have := fcn_less (n := n) (by omega) h1 h2 fun v hv hne => h3 v (by omega) hne
      have h4 := h3 n (by omega) (by omega)
      by_cases q : L n = n
      · rw [if_pos q, if_pos (h4.1 q)]; omega
      · rw [if_neg q, if_neg (fun r => q (h4.2 r))]; omega
theorem Lab.nil (n : Nat) : Lab [] n (fun v => v) := by
  refine ⟨fun v h => h, fun _ _ => rfl, fun _ _ => Nat.le_refl _, fun u v _ _ => ⟨fun h => ?_, fun h => h ▸ .refl _⟩⟩
  cases h with
  | refl => rfl
  | step _ e => simp at e
theorem Lab.take1 {T : List (Nat × Nat)} {n : Nat} {L : Nat → Nat} {e0 : Nat × Nat} (h : Lab T n L) (hx : x < n) (hy : y < n) (he0 : e0 = (x, y) ∨ e0 = (y, x)) (hlt : L y < L x) :
    ∃ L', Lab (T ++ [e0]) n L' ∧ fcn L' n + 1 = fcn L n := by
  have hne : L x ≠ L y := by omega
  refine ⟨fun v => if L v = L x then L y else L v, ⟨fun v hv => ?_, fun v hv => ?_, fun v hv => ?_, fun u v hu hv => ⟨fun k => ?_, fun k => ?_⟩⟩, ?_⟩
  · show (if L v = L x then L y else L v) < n
    split
    · exact h.lt y hy
    · exact h.lt v hv
  · show (if L (if L v = L x then L y else L v) = L x then L y else L (if L v = L x then L y else L v)) = if L v = L x then L y else L v
    by_cases e : L v = L x
    · rw [if_pos e, h.fix y hy, if_neg (Ne.symm hne)]
    · rw [if_neg e, h.fix v hv, if_neg e]
  · show (if L v = L x then L y else L v) ≤ v
    have := h.le v hv
    split <;> omega
  · have hw : ∀ {b : Nat}, Cn (T ++ [e0]) u b → Cn T u b ∨ (Cn T u x ∧ Cn T y b) ∨ (Cn T u y ∧ Cn T x b) := by
      intro b k
      induction k with
      | refl => exact .inl (.refl _)
      | step _ e ih =>
        simp only [List.mem_append, List.mem_singleton] at e
        rcases e with (e | e) | (e | e)
        · rcases ih with ih | ⟨i1, i2⟩ | ⟨i1, i2⟩
          · exact .inl (.step ih (.inl e))
          · exact .inr (.inl ⟨i1, .step i2 (.inl e)⟩)
          · exact .inr (.inr ⟨i1, .step i2 (.inl e)⟩)
        · rcases he0 with q | q
          · rw [q] at e
            cases e
            rcases ih with ih | ⟨i1, i2⟩ | ⟨i1, i2⟩
            · exact .inr (.inl ⟨ih, .refl _⟩)
            · exact .inr (.inl ⟨i1, .refl _⟩)
            · exact .inl i1
          · rw [q] at e
            cases e
            rcases ih with ih | ⟨i1, i2⟩ | ⟨i1, i2⟩
            · exact .inr (.inr ⟨ih, .refl _⟩)
            · exact .inl i1
            · exact .inr (.inr ⟨i1, .refl _⟩)
        · rcases ih with ih | ⟨i1, i2⟩ | ⟨i1, i2⟩
          · exact .inl (.step ih (.inr e))
          · exact .inr (.inl ⟨i1, .step i2 (.inr e)⟩)
          · exact .inr (.inr ⟨i1, .step i2 (.inr e)⟩)
        · rcases he0 with q | q
          · rw [q] at e
            cases e
            rcases ih with ih | ⟨i1, i2⟩ | ⟨i1, i2⟩
            · exact .inr (.inr ⟨ih, .refl _⟩)
            · exact .inl i1
            · exact .inr (.inr ⟨i1, .refl _⟩)
          · rw [q] at e
            cases e
            rcases ih with ih | ⟨i1, i2⟩ | ⟨i1, i2⟩
            · exact .inr (.inl ⟨ih, .refl _⟩)
            · exact .inr (.inl ⟨i1, .refl _⟩)
            · exact .inl i1
    show (if L u = L x then L y else L u) = if L v = L x then L y else L v
    rcases hw k with k | ⟨k1, k2⟩ | ⟨k1, k2⟩
    · rw [(h.iff u v hu hv).1 k]
    · rw [if_pos ((h.iff u x hu hx).1 k1)]
      have := (h.iff y v hy hv).1 k2
      split
      · rfl
      · exact this
    · have e1 := (h.iff u y hu hy).1 k1
      have e2 := (h.iff x v hx hv).1 k2
      rw [if_neg (fun q => hne (q.symm.trans e1)), if_pos e2.symm, e1]
  · have up : ∀ {a b : Nat}, Cn T a b → Cn (T ++ [e0]) a b := fun k => k.mono fun e he => List.mem_append_left _ he
    have hxy : Cn (T ++ [e0]) x y := Cn.edge (by rcases he0 with q | q <;> simp [q])
    have k' : (if L u = L x then L y else L u) = if L v = L x then L y else L v := k
    by_cases e1 : L u = L x
    · rw [if_pos e1] at k'
      have c1 := up ((h.iff u x hu hx).2 e1)
      by_cases e2 : L v = L x
      · exact c1.trans (up ((h.iff v x hv hx).2 e2)).symm
      · rw [if_neg e2] at k'
        exact (c1.trans hxy).trans (up ((h.iff y v hy hv).2 k'))
    · rw [if_neg e1] at k'
      by_cases e2 : L v = L x
      · rw [if_pos e2] at k'
        exact ((up ((h.iff u y hu hy).2 k')).trans hxy.symm).trans (up ((h.iff v x hv hx).2 e2)).symm
      · rw [if_neg e2] at k'
        exact up ((h.iff u v hu hv).2 k')
  · refine fcn_less (a := L x) (h.lt x hx) (h.fix x hx) ?_ fun v hv hvn => ?_
    · show (if L (L x) = L x then L y else L (L x)) ≠ L x
      rw [if_pos (h.fix x hx)]
      exact Ne.symm hne
    · show L v = v ↔ (if L v = L x then L y else L v) = v
      by_cases e : L v = L x
      · rw [if_pos e]
        refine ⟨fun q => absurd (q.symm.trans e) hvn, fun q => ?_⟩
        exfalso
        rw [← q, h.fix y hy] at e
        exact hne e.symm
      · rw [if_neg e]
theorem Lab.take {T : List (Nat × Nat)} {n : Nat} {L : Nat → Nat} (h : Lab T n L) (hx : x < n) (hy : y < n) (hn : ¬ Cn T x y) :
    ∃ L', Lab (T ++ [(x, y)]) n L' ∧ fcn L' n + 1 = fcn L n := by
  have hne : L x ≠ L y := fun e => hn ((h.iff x y hx hy).2 e)
  by_cases q : L y < L x
  · exact h.take1 hx hy (.inl rfl) q
  · exact h.take1 hy hx (.inr rfl) (by omega)
/-- the least names are the same for the same parts -/
theorem Lab.uniq {F : List (Nat × Nat)} {n : Nat} {L L' : Nat → Nat} (h : Lab E n L) (h' : Lab F n L') (he : ∀ u v, u < n → v < n → (Cn E u v ↔ Cn F u v)) : ∀ v, v < n → L v = L' v := by
  intro v hv
  have h1 := h.lt v hv
  have h2 := h'.lt v hv
  have a1 : L' (L v) = L' v := (h'.iff _ _ h1 hv).1 ((he _ _ h1 hv).1 ((h.iff _ _ h1 hv).2 (h.fix v hv)))
  have a2 : L (L' v) = L v := (h.iff _ _ h2 hv).1 ((he _ _ h2 hv).2 ((h'.iff _ _ h2 hv).2 (h'.fix v hv)))
  have a3 := h'.le _ h1
  have a4 := h.le _ h2
  omega
theorem Lab.count {F : List (Nat × Nat)} {n : Nat} {L L' : Nat → Nat} (h : Lab E n L) (h' : Lab F n L') (he : ∀ u v, u < n → v < n → (Cn E u v ↔ Cn F u v)) : fcn L n = fcn L' n :=
  fcn_congr fun v hv => by rw [h.uniq h' he v hv]
/-- the parts and the edges taken -/
theorem Kr.count {n : Nat} : ∀ {T : List (Nat × Nat)}, (∀ e, e ∈ E → e.1 < n ∧ e.2 < n) → Kr E T → ∃ L, Lab T n L ∧ fcn L n + T.length = n := by
  refine snoc_ind (P := fun E => ∀ {T : List (Nat × Nat)}, (∀ e, e ∈ E → e.1 < n ∧ e.2 < n) → Kr E T → ∃ L, Lab T n L ∧ fcn L n + T.length = n) ?_ ?_ E
  · intro T _ h
    rw [h.of_nil]
    exact ⟨_, Lab.nil n, by rw [fcn_id]; rfl⟩
  · rintro l ⟨x, y⟩ ih T he h
    rcases h.snoc with ⟨h1, _⟩ | ⟨T0, rfl, h1, h2⟩
    · exact ih (fun e q => he e (List.mem_append_left _ q)) h1
    · obtain ⟨L, hL, hc⟩ := ih (fun e q => he e (List.mem_append_left _ q)) h1
      obtain ⟨b1, b2⟩ := he (x, y) (by simp)
      obtain ⟨L', hL', hc'⟩ := hL.take b1 b2 h2
      exact ⟨L', hL', by rw [List.length_append]; simp; omega⟩
end
/-- how many numbers are greater -/
def gtc (l : List Int) (t : Int) : Nat := (l.filter fun x => decide (t < x)).length
theorem gtc_cons (x : Int) (l : List Int) (t : Int) : gtc (x :: l) t = (if t < x then 1 else 0) + gtc l t := by
  unfold gtc
  rw [List.filter_cons]
  by_cases h : t < x
  · rw [if_pos (decide_eq_true h), if_pos h, List.length_cons]; omega
  · rw [if_neg (by simpa using h), if_neg h]; omega
def sumN (f : Nat → Nat) : Nat → Nat
  | 0 => 0
  | n + 1 => sumN f n + f n
theorem sumN_congr {f g : Nat → Nat} : ∀ {n : Nat}, (∀ i, i < n → f i = g i) → sumN f n = sumN g n
  | 0, _ => rfl
  | n + 1, h => by rw [sumN, sumN, sumN_congr (n := n) fun i hi => h i (by omega), h n (by omega)]
theorem sumN_add (f g : Nat → Nat) : ∀ n : Nat, sumN (fun i => f i + g i) n = sumN f n + sumN g n
  | 0 => rfl
  | n + 1 => by rw [sumN, sumN, sumN, sumN_add f g n]; omega
theorem sumN_one (x : Nat) : ∀ n : Nat, sumN (fun t => if (t : Int) < (x : Int) then 1 else 0) n = min x n
  | 0 => by simp [sumN]
  | n + 1 => by
    rw [sumN, sumN_one x n]
    by_cases h : (n : Int) < (x : Int)
    · rw [if_pos h]; omega
    · rw [if_neg h]; omega
theorem sum_gtc {B : Nat} : ∀ {l : List Int}, (∀ x, x ∈ l → 0 ≤ x ∧ x ≤ B) → l.sum = ((sumN (fun t => gtc l t) B : Nat) : Int)
  | [], _ => by
    have : sumN (fun t => gtc [] t) B = 0 := by
      have h : ∀ n, sumN (fun t => gtc [] (t : Int)) n = 0 := by
        intro n
        induction n with
        | zero => rfl
        | succ n ih => rw [sumN, ih]; rfl
      exact h B
    rw [this]; rfl
  | x :: l, h => by
    have h1 := h x (by simp)
    have ih := sum_gtc (B := B) (l := l) fun y hy => h y (List.mem_cons_of_mem _ hy)
    have e : sumN (fun t => gtc (x :: l) t) B = sumN (fun t => if (t : Int) < ((x.toNat : Nat) : Int) then 1 else 0) B + sumN (fun t => gtc l t) B := by
      rw [← sumN_add]
      refine sumN_congr fun t _ => ?_
      rw [gtc_cons, show ((x.toNat : Nat) : Int) = x by omega]
    rw [List.sum_cons, ih, e, sumN_one]
    omega
/-- lists with as many numbers above each bound have the same sum -/
theorem sum_same {B : Nat} {l l' : List Int} (h : ∀ x, x ∈ l → 0 ≤ x ∧ x ≤ B) (h' : ∀ x, x ∈ l' → 0 ≤ x ∧ x ≤ B) (hc : ∀ t : Nat, gtc l t = gtc l' t) : l.sum = l'.sum := by
  rw [sum_gtc h, sum_gtc h', sumN_congr fun t _ => hc t]
theorem gtc_app (l l' : List Int) (t : Int) : gtc (l ++ l') t = gtc l t + gtc l' t := by unfold gtc; rw [List.filter_append, List.length_append]
theorem gtc_none {l : List Int} {t : Int} (h : ∀ x, x ∈ l → x ≤ t) : gtc l t = 0 := by
  unfold gtc
  rw [List.filter_eq_nil_iff.2 (fun x hx => by have := h x hx; simp; omega)]
  rfl
theorem gtc_all {l : List Int} {t : Int} (h : ∀ x, x ∈ l → t < x) : gtc l t = l.length := by
  unfold gtc
  rw [List.filter_eq_self.2 (fun x hx => by simpa using h x hx)]
section
variable {E : List (Nat × Nat)} {n : Nat} {D : Nat → Nat → Int}
/-- the least name along the edges of a tree that are not longer than t -/
def lsTr (pa : Nat → Nat) (le : Nat → Int) (t : Int) : Nat → Nat → Nat
  | 0, v => v
  | k + 1, v => if v = k then (if 1 ≤ k ∧ le k ≤ t then lsTr pa le t k (pa k) else k) else lsTr pa le t k v
theorem lsTr_lt {pa : Nat → Nat} {le : Nat → Int} {t : Int} : ∀ {k v : Nat}, TrOk pa le k → v < k → lsTr pa le t k v ≤ v ∧ lsTr pa le t k (lsTr pa le t k v) = lsTr pa le t k v
  | 0, _, _, h => by omega
  | k + 1, v, h, hv => by
    have e : ∀ u, u < k → lsTr pa le t (k + 1) u = lsTr pa le t k u := fun u hu => by rw [lsTr, if_neg (by omega)]
    by_cases q : v = k
    · subst q
      by_cases c : 1 ≤ v ∧ le v ≤ t
      · have hp := (h v c.1 (by omega)).1
        have ih := lsTr_lt (pa := pa) (le := le) (t := t) (h.less (Nat.le_succ v)) hp
        have e1 : lsTr pa le t (v + 1) v = lsTr pa le t v (pa v) := by rw [lsTr, if_pos rfl, if_pos c]
        rw [e1, e _ (by omega)]
        exact ⟨by omega, ih.2⟩
      · have e1 : lsTr pa le t (v + 1) v = v := by rw [lsTr, if_pos rfl, if_neg c]
        rw [e1]
        exact ⟨Nat.le_refl _, e1⟩
    · have ih := lsTr_lt (pa := pa) (le := le) (t := t) (h.less (Nat.le_succ k)) (show v < k by omega)
      rw [e v (by omega), e _ (by omega)]
      exact ih
theorem lsTr_near {pa : Nat → Nat} {le : Nat → Int} {t : Int} : ∀ {k u v : Nat}, TrOk pa le k → u < k → v < k → trD pa le k u v ≤ t → lsTr pa le t k u = lsTr pa le t k v
  | 0, _, _, _, h, _, _ => by omega
  | k + 1, u, v, h, hu, hv, hd => by
    have e : ∀ w, w < k → lsTr pa le t (k + 1) w = lsTr pa le t k w := fun w hw => by rw [lsTr, if_neg (by omega)]
    have one : ∀ w, w < k → trD pa le (k + 1) k w ≤ t → lsTr pa le t (k + 1) k = lsTr pa le t k w := by
      intro w hw hd
      rw [trD, if_pos rfl, if_neg (by omega)] at hd
      have hk := h k (by omega) (by omega)
      have hp := (trD_pos (h.less (Nat.le_succ k)) (pa k) w hk.1 hw).1
      rw [lsTr, if_pos rfl, if_pos ⟨by omega, by omega⟩]
      exact lsTr_near (h.less (Nat.le_succ k)) hk.1 hw (by omega)
    by_cases q1 : u = k
    · by_cases q2 : v = k
      · rw [q1, q2]
      · rw [e v (by omega), q1]
        rw [q1] at hd
        exact one v (by omega) hd
    · by_cases q2 : v = k
      · rw [e u (by omega), q2]
        rw [q2, trD_symm] at hd
        exact (one u (by omega) hd).symm
      · rw [e u (by omega), e v (by omega)]
        rw [trD, if_neg q1, if_neg q2] at hd
        exact lsTr_near (h.less (Nat.le_succ k)) (by omega) (by omega) hd
/-- each point is joined with its name by edges that are not longer -/
theorem lsTr_join {pa : Nat → Nat} {le : Nat → Int} {t : Int} : ∀ {k : Nat}, TrOk pa le k → (∀ v, 1 ≤ v → v < k → le v ≤ t → (pa v, v) ∈ E) → ∀ v, v < k → Cn E v (lsTr pa le t k v)
  | 0, _, _, _, h => by omega
  | k + 1, h, hE, v, hv => by
    have ih := lsTr_join (h.less (Nat.le_succ k)) fun v h1 h2 h3 => hE v h1 (by omega) h3
    by_cases q : v = k
    · subst q
      by_cases c : 1 ≤ v ∧ le v ≤ t
      · rw [lsTr, if_pos rfl, if_pos c]
        exact (Cn.edge (.inr (hE v c.1 (by omega) c.2))).trans (ih _ (h v c.1 (by omega)).1)
      · rw [lsTr, if_pos rfl, if_neg c]
        exact .refl _
    · rw [lsTr, if_neg q]
      exact ih v (by omega)
theorem lsTr_count {pa : Nat → Nat} {le : Nat → Int} {t : Int} : ∀ {k : Nat}, TrOk pa le k → 1 ≤ k → fcn (lsTr pa le t k) k = 1 + gtc ((List.range (k - 1)).map fun i => le (i + 1)) t
  | 0, _, h => by omega
  | k + 1, h, _ => by
    by_cases hk : k = 0
    · subst hk
      simp [fcn, lsTr, gtc]
    · have ih := lsTr_count (t := t) (h.less (Nat.le_succ k)) (by omega)
      have e : fcn (lsTr pa le t (k + 1)) k = fcn (lsTr pa le t k) k := fcn_congr fun v hv => by rw [lsTr, if_neg (by omega)]
      have er : (List.range (k + 1 - 1)) = List.range (k - 1) ++ [k - 1] := by
        rw [show k + 1 - 1 = (k - 1) + 1 by omega, List.range_succ]
      rw [fcn, e, ih, er, List.map_append, gtc_app]
      have eg : gtc (List.map (fun i => le (i + 1)) [k - 1]) t = if t < le k then 1 else 0 := by
        rw [List.map_cons, List.map_nil, gtc_cons, show k - 1 + 1 = k by omega]
        rfl
      rw [eg, lsTr, if_pos rfl]
      have hp := (h k (by omega) (by omega)).1
      by_cases c : 1 ≤ k ∧ le k ≤ t
      · rw [if_pos c, if_neg (by omega : ¬ t < le k)]
        have := (lsTr_lt (pa := pa) (le := le) (t := t) (h.less (Nat.le_succ k)) hp).1
        rw [if_neg (by omega)]
        omega
      · rw [if_neg c, if_pos rfl, if_pos (by omega : t < le k)]
        omega
/-- all pairs, in ascending order of their distances -/
structure Srt (E : List (Nat × Nat)) (n : Nat) (D : Nat → Nat → Int) : Prop where
  all : ∀ u v, (u, v) ∈ E ↔ u < v ∧ v < n
  asc : ∀ A B : List (Nat × Nat), E = A ++ B → ∀ a b, a ∈ A → b ∈ B → D a.1 a.2 ≤ D b.1 b.2
/-- the edges that are not longer than t are a beginning -/
theorem Srt.split (h : Srt E n D) (t : Int) : ∃ A B, E = A ++ B ∧ (∀ a, a ∈ A → D a.1 a.2 ≤ t) ∧ ∀ b, b ∈ B → t < D b.1 b.2 := by
  have : ∀ (F G : List (Nat × Nat)), E = F ++ G → (∀ a, a ∈ F → D a.1 a.2 ≤ t) → ∃ A B, E = A ++ B ∧ (∀ a, a ∈ A → D a.1 a.2 ≤ t) ∧ ∀ b, b ∈ B → t < D b.1 b.2 := by
    intro F G
    induction G generalizing F with
    | nil => intro he hf; exact ⟨F, [], he, hf, by simp⟩
    | cons g G ih =>
      intro he hf
      by_cases c : D g.1 g.2 ≤ t
      · refine ih (F ++ [g]) (by rw [he]; simp) fun a ha => ?_
        rcases List.mem_append.1 ha with ha | ha
        · exact hf a ha
        · rw [List.mem_singleton.1 ha]; exact c
      · refine ⟨F, g :: G, he, hf, fun b hb => ?_⟩
        rcases List.mem_cons.1 hb with rfl | hb
        · omega
        · have := h.asc (F ++ [g]) G (by rw [he]; simp) g b (by simp) hb
          omega
  exact this [] E rfl (by simp)
theorem Srt.lt (h : Srt E n D) : ∀ e, e ∈ E → e.1 < n ∧ e.2 < n := fun e he => by
  have := (h.all e.1 e.2).1 he
  omega
/-- a spanning tree has one edge less than points -/
theorem kr_len {T : List (Nat × Nat)} (h : Srt E n D) (hk : Kr E T) (hn : 1 ≤ n) : T.length + 1 = n := by
  obtain ⟨L, hL, hc⟩ := hk.count h.lt
  have h0 : ∀ v, v < n → L v = 0 := by
    intro v hv
    have e : L v = L 0 := (hL.iff v 0 hv (by omega)).1 (hk.joins.1 (by
      by_cases q : v = 0
      · rw [q]; exact .refl _
      · exact Cn.edge (.inr ((h.all 0 v).2 ⟨by omega, hv⟩))))
    have := hL.le 0 (by omega)
    omega
  have h1 : ∀ m, 1 ≤ m → m ≤ n → fcn L m = 1 := by
    intro m
    induction m with
    | zero => intro h; omega
    | succ m ih =>
      intro _ hm
      rw [fcn]
      by_cases q : m = 0
      · subst q
        rw [h0 0 (by omega), if_pos rfl]; rfl
      · rw [ih (by omega) (by omega), h0 m (by omega), if_neg (by omega)]
  have := h1 n hn (Nat.le_refl _)
  omega
/-- the spanning tree of the distances of a tree costs what the tree costs -/
theorem kr_tree {pa : Nat → Nat} {le : Nat → Int} {T : List (Nat × Nat)} {B : Nat} (ht : TrOk pa le n) (hn : 1 ≤ n) (h : Srt E n (trD pa le n)) (hk : Kr E T) (hB : ∀ u v, u < n → v < n → trD pa le n u v ≤ B) :
    (T.map fun e => trD pa le n e.1 e.2).sum = ((List.range (n - 1)).map fun i => le (i + 1)).sum := by
  have hle : ∀ v, 1 ≤ v → v < n → trD pa le n (pa v) v = le v := fun v h1 h2 => by
    have := (trD_edge ht v 0 h2 (by omega) (by omega)).1
    rw [trD_symm]; exact this
  refine sum_same (B := B) (fun x hx => ?_) (fun x hx => ?_) fun t => ?_
  · obtain ⟨e, he, rfl⟩ := List.mem_map.1 hx
    have := h.lt e (hk.sub e he)
    exact ⟨(trD_pos ht _ _ this.1 this.2).1, hB _ _ this.1 this.2⟩
  · obtain ⟨i, hi, rfl⟩ := List.mem_map.1 hx
    have hi := List.mem_range.1 hi
    have h1 := ht (i + 1) (by omega) (by omega)
    rw [← hle (i + 1) (by omega) (by omega)]
    exact ⟨(trD_pos ht _ _ (by omega) (by omega)).1, hB _ _ (by omega) (by omega)⟩
  · obtain ⟨A, C, hE, hA, hC⟩ := h.split (t : Int)
    obtain ⟨T0, T1, hT, hk0, hT1⟩ := Kr.begins (A := A) C (hE ▸ hk)
    have hA2 : ∀ e, e ∈ A → e.1 < n ∧ e.2 < n := fun e he => h.lt e (by rw [hE]; exact List.mem_append_left _ he)
    obtain ⟨L, hL, hc⟩ := hk0.count hA2
    have hlen := kr_len h hk hn
    have g1 : gtc (T.map fun e => trD pa le n e.1 e.2) t = T1.length := by
      rw [hT, List.map_append, gtc_app, gtc_none (fun x hx => by
        obtain ⟨e, he, rfl⟩ := List.mem_map.1 hx
        exact hA e (hk0.sub e he)), gtc_all (fun x hx => by
        obtain ⟨e, he, rfl⟩ := List.mem_map.1 hx
        exact hC e (hT1 e he)), List.length_map]
      omega
    have hmem : ∀ v, 1 ≤ v → v < n → le v ≤ t → (pa v, v) ∈ A := by
      intro v h1 h2 h3
      have hp := (ht v h1 h2).1
      have hm : (pa v, v) ∈ E := (h.all _ _).2 ⟨hp, h2⟩
      rw [hE] at hm
      rcases List.mem_append.1 hm with hm | hm
      · exact hm
      · have := hC _ hm
        have h4 := hle v h1 h2
        have h5 : (t : Int) < trD pa le n (pa v) v := this
        omega
    have hS : Lab A n (lsTr pa le t n) := by
      refine ⟨fun v hv => ?_, fun v hv => (lsTr_lt ht hv).2, fun v hv => (lsTr_lt ht hv).1, fun u v hu hv => ⟨fun k => ?_, fun k => ?_⟩⟩
      · have := (lsTr_lt (t := (t : Int)) ht hv).1
        omega
      · have : ∀ {b : Nat}, Cn A u b → b < n ∧ lsTr pa le t n u = lsTr pa le t n b := by
          intro b k
          induction k with
          | refl => exact ⟨hu, rfl⟩
          | step _ e ih =>
            rcases e with e | e
            · have h1 := hA2 _ e
              exact ⟨h1.2, ih.2.trans (lsTr_near ht h1.1 h1.2 (hA _ e))⟩
            · have h1 := hA2 _ e
              exact ⟨h1.1, ih.2.trans (lsTr_near ht h1.1 h1.2 (hA _ e)).symm⟩
        exact (this k).2
      · have j1 := lsTr_join (t := (t : Int)) ht hmem u hu
        have j2 := lsTr_join (t := (t : Int)) ht hmem v hv
        rw [k] at j1
        exact j1.trans j2.symm
    have e1 := hL.count hS fun u v _ _ => hk0.joins.symm
    rw [lsTr_count ht hn] at e1
    have e2 : T.length = T0.length + T1.length := by rw [hT, List.length_append]
    rw [g1]
    omega
end
end Go.Proofs.Ytnlbjbnjjkilhaa
