/- Least values over lists: what loops compute and what they are. -/
import Derived.Test.YtohjbabjkjcddaaRun
namespace Go.Proofs.Ytohjbabjkjcddaa
open Go.RowKit

/-- a least value, kept with a first one that counts as none -/
def minA (f : Int → Int) (b s : Int) : Int := if b < 0 ∨ f s < b then f s else b
def minB (f : Int → Int) (a s : Int) : Int := if f s < a then f s else a
/-- v is the least of f on l -/
def IsMin (v : Int) (l : List Int) (f : Int → Int) : Prop := (∃ s ∈ l, v = f s) ∧ ∀ s ∈ l, v ≤ f s
theorem IsMin.uniq {u v : Int} {l : List Int} {f : Int → Int} (h : IsMin u l f) (k : IsMin v l f) : u = v := by
  obtain ⟨⟨s, hs, h1⟩, h2⟩ := h
  obtain ⟨⟨t, ht, k1⟩, k2⟩ := k
  have := h2 t ht
  have := k2 s hs
  omega
theorem foldA_of {f : Int → Int} : ∀ {l : List Int} {b : Int}, 0 ≤ b → (∀ s ∈ l, 0 ≤ f s) → l.foldl (minA f) b = l.foldl (minB f) b
  | [], _, _, _ => rfl
  | s :: l, b, hb, h => by
    have hs := h s (by simp)
    have e : minA f b s = minB f b s := by
      unfold minA minB
      by_cases hlt : f s < b
      · rw [if_pos (.inr hlt), if_pos hlt]
      · rw [if_neg (by omega), if_neg hlt]
    rw [List.foldl_cons, List.foldl_cons, e]
    refine foldA_of ?_ (fun t ht => h t (by simp [ht]))
    unfold minB
    split <;> omega
theorem foldA_eq {f : Int → Int} {l : List Int} {F : Int} (hne : l ≠ []) (h0 : ∀ s ∈ l, 0 ≤ f s) (h1 : ∀ s ∈ l, f s < F) : l.foldl (minA f) (-1) = l.foldl (minB f) F := by
  cases l with
  | nil => exact absurd rfl hne
  | cons s l =>
    have e1 : minA f (-1) s = f s := by unfold minA; rw [if_pos (.inl (by omega))]
    have e2 : minB f F s = f s := by unfold minB; rw [if_pos (h1 s (by simp))]
    rw [List.foldl_cons, List.foldl_cons, e1, e2]
    exact foldA_of (h0 s (by simp)) (fun t ht => h0 t (by simp [ht]))
theorem foldB_le {f : Int → Int} : ∀ (l : List Int) (b : Int), l.foldl (minB f) b ≤ b ∧ (∀ s ∈ l, l.foldl (minB f) b ≤ f s) ∧ (l.foldl (minB f) b = b ∨ ∃ s ∈ l, l.foldl (minB f) b = f s)
  | [], b => ⟨by simp, by simp, by simp⟩
  | s :: l, b => by
    obtain ⟨h1, h2, h3⟩ := foldB_le (f := f) l (minB f b s)
    have e : minB f b s ≤ b ∧ minB f b s ≤ f s ∧ (minB f b s = b ∨ minB f b s = f s) := by
      unfold minB
      split <;> omega
    rw [List.foldl_cons]
    generalize minB f b s = m at *
    refine ⟨by omega, fun t ht => ?_, ?_⟩
    · rcases List.mem_cons.1 ht with rfl | ht
      · omega
      · exact h2 t ht
    · rcases h3 with h3 | ⟨t, ht, h3⟩
      · rcases e.2.2 with e3 | e3
        · exact .inl (by omega)
        · exact .inr ⟨s, by simp, by omega⟩
      · exact .inr ⟨t, by simp [ht], h3⟩
theorem foldB_min {f : Int → Int} {l : List Int} {F : Int} (hne : l ≠ []) (h1 : ∀ s ∈ l, f s < F) : IsMin (l.foldl (minB f) F) l f := by
  obtain ⟨_, h2, h3⟩ := foldB_le (f := f) l F
  refine ⟨?_, h2⟩
  rcases h3 with h3 | ⟨t, ht, h3⟩
  · cases l with
    | nil => exact absurd rfl hne
    | cons s l =>
      have := h2 s (by simp)
      have := h1 s (by simp)
      omega
  · exact ⟨t, ht, h3⟩

/-- the least of some numbers -/
def leastL (w : List Int) : Int := (w.drop 1).foldl (minB id) (nth w 0)
theorem leastL_min {w : List Int} (h : w ≠ []) : IsMin (leastL w) w id := by
  cases w with
  | nil => exact absurd rfl h
  | cons x l =>
    obtain ⟨h1, h2, h3⟩ := foldB_le (f := id) l x
    refine ⟨?_, fun s hs => ?_⟩
    · rcases h3 with h3 | ⟨t, ht, h3⟩
      · exact ⟨x, by simp, h3⟩
      · exact ⟨t, by simp [ht], h3⟩
    · rcases List.mem_cons.1 hs with rfl | hs
      · exact h1
      · exact h2 s hs

/-- the sum of a way over s -/
def wsum (M S : List (List Int)) (w : List Int) (r t : Nat) (s : Int) : Int := nth w s.toNat + cell S r s.toNat + cell M s.toNat t
def nextAt (M S : List (List Int)) (w : List Int) (r t : Nat) : Int := (servedL (row S r)).foldl (minB (wsum M S w r t)) 1073741824
/-- the work function after one more request -/
def nextL (M S : List (List Int)) (w : List Int) (r : Nat) : List Int := (List.range w.length).map fun t => nextAt M S w r t
/-- w has a number in 0..B for each state -/
def wOk (M : List (List Int)) (w : List Int) (B : Int) : Prop := w.length = M.length ∧ ∀ s, s < M.length → 0 ≤ nth w s ∧ nth w s ≤ B
theorem nextL_length (M S : List (List Int)) (w : List Int) (r : Nat) : (nextL M S w r).length = w.length := by simp [nextL]
theorem nth_nextL {M S : List (List Int)} {w : List Int} {r t : Nat} (h : t < w.length) : nth (nextL M S w r) t = nextAt M S w r t := by simp [nextL, nth, h]
theorem servedL_lt {cs : List Int} {s : Int} (h : s ∈ servedL cs) : 0 ≤ s ∧ s.toNat < cs.length ∧ 0 ≤ nth cs s.toNat := by
  obtain ⟨i, h1, h2, rfl⟩ := servedTo_mem.1 h
  rw [Int.toNat_natCast]
  exact ⟨by omega, h1, h2⟩
theorem servedL_ne {cs : List Int} (h : ∃ c ∈ cs, 0 ≤ c) : servedL cs ≠ [] := by
  obtain ⟨c, hc, h0⟩ := h
  obtain ⟨k, hk, rfl⟩ := mem_iff_nth.1 hc
  intro e
  have : (k : Int) ∈ servedL cs := servedTo_mem.2 ⟨k, hk, h0, rfl⟩
  rw [e] at this
  cases this
theorem foldServed {β : Type} (f : β → Int → β) (a : β) (cs : List Int) (k : Nat) :
    (servedTo cs (k + 1)).foldl f a = if 0 ≤ nth cs k then f ((servedTo cs k).foldl f a) k else (servedTo cs k).foldl f a := by
  by_cases h : 0 ≤ nth cs k
  · rw [servedTo_succ_yes h, List.foldl_append, if_pos h]; rfl
  · rw [servedTo_succ_no h, if_neg h]
theorem foldTake {β : Type} (f : β → Int → β) (a : β) {l : List Int} {j : Nat} (h : j < l.length) : (l.take (j + 1)).foldl f a = f ((l.take j).foldl f a) (nth l j) := by
  rw [take_succ_nth h, List.foldl_append]; rfl

end Go.Proofs.Ytohjbabjkjcddaa
