/- Runs and plans: the page that is requested last leaves; the fewest faults. -/
import Derived.Test.YtmabejallkjjmaaCvP
import Derived.Test.YtmabejallkjjmaaLzK
namespace Go.Proofs.Ytmabejallkjjmaa
open Go.RowKit

/-- the pages of a cache of k places, the empty places filled up -/
def cst (k : Int) (L : List Int) : Int → Prop := fun y => y ∈ L ∨ (-(k - L.length) ≤ y ∧ y < 0)
theorem run_best {r x : Int} {X : List Int} {E : Int → Prop} {c : Nat} (hr : ¬ E r) (hx : E x) (hb : ∀ y, E y → bef X y x) (h : Run (r :: X) E c) : ∃ c', c' + 1 ≤ c ∧ Run X (swp E x r) c' := by
  cases h with
  | hit h1 _ => exact absurd h1 hr
  | @miss _ o _ _ c0 _ ho h =>
    by_cases e : o = x
    · subst e; exact ⟨c0, Nat.le_refl _, h⟩
    · obtain ⟨c', h1, h2⟩ := run_exch (a := o) (b := x) (S := fun y => y = r ∨ (y ≠ o ∧ y ≠ x ∧ E y)) (by grind) (by grind) (hb o ho) (h.same fun y => by simp only [swp, ins]; grind)
      exact ⟨c', by omega, h2.same fun y => by simp only [swp, ins]; grind⟩
theorem bef_never {b : Int} : ∀ {X : List Int} {a : Int}, (∀ y ∈ X, y ≠ b) → bef X a b
  | [], _, _ => trivial
  | r :: X, a, h => .inr ⟨h r (by simp), bef_never fun y hy => h y (by simp [hy])⟩
/-- the faults of a run from t on: those of the places t .. t + d - 1 -/
def ftF (F : Nat → Bool) (t : Nat) : Nat → Nat
  | 0 => 0
  | d + 1 => (if F t then 1 else 0) + ftF F (t + 1) d
theorem cst_room {k : Int} {L : List Int} {r : Int} (hr : r ∉ L) (_h0 : 0 ≤ r) (hL : ∀ y ∈ L, 0 ≤ y) (hk : (L.length : Int) < k) (y : Int) : swp (cst k L) (-(k - L.length)) r y ↔ cst k (putL L r) y := by
  have h1 := putL_new hr
  have h2 := mem_putL (x := r) (y := y) (l := L)
  have h3 := hL y
  simp only [swp, cst]
  rw [h2]
  have h4 : ((putL L r).length : Int) = L.length + 1 := by omega
  rw [h4]
  constructor
  · rintro (h | ⟨h, h5 | h5⟩)
    · exact .inl (.inl h)
    · exact .inl (.inr h5)
    · exact .inr (by omega)
  · rintro ((h | h) | h)
    · exact .inl h
    · exact .inr ⟨by have := h3 h; omega, .inl h⟩
    · exact .inr ⟨by omega, .inr (by omega)⟩
theorem cst_full {k : Int} {L : List Int} {r o : Int} (hs : SAsc L) (hr : r ∉ L) (ho : o ∈ L) (h0 : 0 ≤ o) (y : Int) : swp (cst k L) o r y ↔ cst k (putL (outL L o) r) y := by
  have h1 := outL_drop hs ho
  have hr2 : r ∉ outL L o := fun h => hr (mem_outL.1 h).1
  have h2 := putL_new hr2
  have h4 : ((putL (outL L o) r).length : Int) = L.length := by omega
  simp only [swp, cst]
  rw [mem_putL, mem_outL, h4]
  constructor
  · rintro (h | ⟨h, h5 | h5⟩)
    · exact .inl (.inl h)
    · exact .inl (.inr ⟨h5, h⟩)
    · exact .inr h5
  · rintro ((h | h) | h)
    · exact .inl h
    · exact .inr ⟨h.2, .inl h.1⟩
    · exact .inr ⟨by omega, .inr h⟩
/-- what a choice must be -/
structure ChOk (k : Int) (ch : Nat → List Int → Int) (X : List Int) : Prop where
  mem : ∀ t, t < X.length → nth X t ∉ pbC k ch X t → ((pbC k ch X t).length : Int) = k → ch t (pbC k ch X t) ∈ pbC k ch X t
  last : ∀ t, t < X.length → nth X t ∉ pbC k ch X t → ((pbC k ch X t).length : Int) = k → ∀ y ∈ pbC k ch X t, bef (X.drop (t + 1)) y (ch t (pbC k ch X t))
theorem pbC_le {k : Int} {ch : Nat → List Int → Int} {X : List Int} (hk : 1 ≤ k) (h : ChOk k ch X) : ∀ {t : Nat}, t ≤ X.length → ((pbC k ch X t).length : Int) ≤ k
  | 0, _ => by simp [pbC]; omega
  | t + 1, ht => by
    have ih := pbC_le hk h (t := t) (by omega)
    unfold pbC pbN
    by_cases h1 : nth X t ∈ pbC k ch X t
    · rw [if_pos h1]; exact ih
    · rw [if_neg h1]
      by_cases h2 : ((pbC k ch X t).length : Int) = k
      · rw [if_pos h2]
        have h3 := outL_drop (pbC_sasc k ch X t) (h.mem t (by omega) h1 h2)
        have h4 : nth X t ∉ outL (pbC k ch X t) (ch t (pbC k ch X t)) := fun hh => h1 (mem_outL.1 hh).1
        rw [putL_new h4]
        omega
      · rw [if_neg h2, putL_new h1]
        omega
/-- the plan that sends the page away that is requested last has the fewest faults -/
theorem bel_least {k : Int} {ch : Nat → List Int → Int} {X : List Int} (hk : 1 ≤ k) (h : ChOk k ch X) (hX0 : ∀ s, s < X.length → 0 ≤ nth X s) : ∀ (d t : Nat), t + d = X.length →
    Run (X.drop t) (cst k (pbC k ch X t)) (ftF (fun s => decide (nth X s ∉ pbC k ch X s)) t d) ∧ ∀ c, Run (X.drop t) (cst k (pbC k ch X t)) c → ftF (fun s => decide (nth X s ∉ pbC k ch X s)) t d ≤ c
  | 0, t, ht => by
    rw [List.drop_eq_nil_of_le (by omega)]
    exact ⟨.nil _, fun c _ => Nat.zero_le _⟩
  | d + 1, t, ht => by
    obtain ⟨ih1, ih2⟩ := bel_least hk h hX0 d (t + 1) (by omega)
    have hlt : t < X.length := by omega
    have hd : X.drop t = nth X t :: X.drop (t + 1) := by
      rw [List.drop_eq_getElem_cons hlt]
      simp [nth, hlt]
    have hr0 := hX0 t hlt
    have hL0 : ∀ y ∈ pbC k ch X t, 0 ≤ y := fun y hy => by
      obtain ⟨s, hs, rfl⟩ := pbC_mem hy
      exact hX0 s (by omega)
    have hle := pbC_le hk h (t := t) (by omega)
    have hC : pbC k ch X (t + 1) = pbN k (pbC k ch X t) (nth X t) (ch t (pbC k ch X t)) := rfl
    have hmem := h.mem t hlt
    have hlast := h.last t hlt
    have hsa := pbC_sasc k ch X t
    rw [hd, ftF]
    rw [hC] at ih1 ih2
    have hne : ∀ y ∈ X.drop (t + 1), 0 ≤ y := fun y hy => by
      obtain ⟨j, hj, rfl⟩ := mem_iff_nth.1 (List.mem_of_mem_drop hy)
      exact hX0 j hj
    generalize ch t (pbC k ch X t) = o at *
    generalize hN : pbC k ch X t = N at *
    generalize nth X t = r at *
    generalize ftF (fun s => decide (nth X s ∉ pbC k ch X s)) (t + 1) d = f at *
    by_cases h1 : r ∈ N
    · have hr : cst k N r := .inl h1
      rw [pbN, if_pos h1] at ih1 ih2
      rw [if_neg (by simpa using h1), Nat.zero_add]
      refine ⟨.hit hr ih1, fun c hc => ?_⟩
      cases hc with
      | hit _ hc => exact ih2 _ hc
      | miss hn _ _ => exact absurd hr hn
    · have hr : ¬ cst k N r := by
        simp only [cst]
        grind
      rw [if_pos (by simpa using h1)]
      rw [pbN, if_neg h1] at ih1 ih2
      by_cases h2 : (N.length : Int) = k
      · have ho := hmem h1 h2
        rw [if_pos h2] at ih1 ih2
        have he := fun y => cst_full (k := k) hsa h1 ho (hL0 o ho) y
        refine ⟨by rw [Nat.add_comm 1 f]; exact .miss hr (.inl ho) (ih1.same fun y => (he y).symm), fun c hc => ?_⟩
        obtain ⟨c', h3, h4⟩ := run_best hr (.inl ho) (fun y hy => by
          rcases hy with hy | hy
          · exact hlast h1 h2 y hy
          · omega) hc
        have := ih2 _ (h4.same he)
        omega
      · rw [if_neg h2] at ih1 ih2
        have he := fun y => cst_room (k := k) h1 hr0 hL0 (by omega) y
        have hx : cst k N (-(k - N.length)) := .inr (by omega)
        refine ⟨by rw [Nat.add_comm 1 f]; exact .miss hr hx (ih1.same fun y => (he y).symm), fun c hc => ?_⟩
        obtain ⟨c', h3, h4⟩ := run_best hr hx (fun y _ => bef_never fun z hz => by have := hne z hz; omega) hc
        have := ih2 _ (h4.same he)
        omega
end Go.Proofs.Ytmabejallkjjmaa
