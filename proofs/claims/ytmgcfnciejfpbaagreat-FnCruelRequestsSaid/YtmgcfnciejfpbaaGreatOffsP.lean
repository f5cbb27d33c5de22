/- Offsets: the lists that the loops make. -/
import Derived.Test.YtmgcfnciejfpbaaGreatArg
import Derived.Test.YtmgcfnciejfpbaaGreatMark
namespace Go.Proofs.YtmgcfnciejfpbaaGreat
open Go.RowKit

--PURE
/-- the index of the first list with a property, from i on; or -1 -/
def ixL (p : List Int → Bool) : List (List Int) → Nat → Int
  | [], _ => -1
  | x :: xs, i => if p x = true then (i : Int) else ixL p xs (i + 1)
theorem ixL_none {p : List Int → Bool} : ∀ {xs : List (List Int)} {i : Nat}, (∀ j, j < xs.length → p (row xs j) = false) → ixL p xs i = -1
  | [], _, _ => rfl
  | x :: xs, i, h => by
    have h0 : p x = false := h 0 (by simp)
    rw [ixL, h0]
    exact ixL_none (xs := xs) fun j hj => h (j + 1) (by simpa using hj)
theorem ixL_some {p : List Int → Bool} : ∀ {xs : List (List Int)} {i k : Nat}, k < xs.length → p (row xs k) = true → (∀ j, j < k → p (row xs j) = false) → ixL p xs i = ((i + k : Nat) : Int)
  | [], _, _, h, _, _ => by simp at h
  | x :: xs, i, 0, _, h, _ => by
    have h0 : p x = true := h
    rw [ixL, if_pos h0, Nat.add_zero]
  | x :: xs, i, k + 1, hk, h, hj => by
    have h0 : p x = false := hj 0 (by omega)
    rw [ixL, h0]
    show ixL p xs (i + 1) = _
    rw [ixL_some (xs := xs) (i := i + 1) (k := k) (by simpa using hk) h (fun j h' => hj (j + 1) (by omega))]
    congr 1
    omega
theorem ixL_in {p : List Int → Bool} (xs : List (List Int)) : ∀ i : Nat, ixL p xs i = -1 ∨ ((i : Int) ≤ ixL p xs i ∧ ixL p xs i < i + xs.length) := by
  induction xs with
  | nil => intro i; left; rfl
  | cons x xs ih =>
    intro i
    rw [ixL]
    split
    · right; simp only [List.length_cons]; omega
    · rcases ih (i + 1) with h | h
      · left; exact h
      · right; simp only [List.length_cons]; omega

def normL (w : List Int) : List Int := w.map fun x => x - leastL w
theorem normL_length (w : List Int) : (normL w).length = w.length := by simp [normL]
theorem nth_normL {w : List Int} {k : Nat} (h : k < w.length) : nth (normL w) k = nth w k - leastL w := by simp [normL, nth, h]
theorem len_ne {M S : List (List Int)} (hp : probB M S = true) {w : List Int} (h : w.length = M.length) : w ≠ [] := by
  intro e
  have := (probB_len hp).1
  rw [e] at h
  simp at h
  omega
theorem norm_ok {M S : List (List Int)} (hp : probB M S = true) {w : List Int} (hw : wOk M w 99) {r : Nat} (hr : r < S.length) : wOk M (normL (nextL M S w r)) 99 ∧ 0 ≤ leastL (nextL M S w r) ∧ leastL (nextL M S w r) ≤ 218 := by
  have hn := nextL_ok hp hw (by omega) hr
  obtain ⟨⟨c, hc, e⟩, h⟩ := leastL_min (len_ne hp hn.1)
  obtain ⟨j, hj, rfl⟩ := mem_iff_nth.1 hc
  rw [hn.1] at hj
  have e' : leastL (nextL M S w r) = nth (nextL M S w r) j := e
  have h1 := hn.2 j hj
  refine ⟨⟨by rw [normL_length, hn.1], fun t ht => ?_⟩, by omega, by omega⟩
  rw [nth_normL (by rw [hn.1]; exact ht)]
  have h2 : leastL (nextL M S w r) ≤ nth (nextL M S w r) t := h _ (nth_mem (by rw [hn.1]; exact ht))
  refine ⟨by omega, ?_⟩
  rw [nth_nextL (by rw [hw.1]; exact ht)]
  rw [nth_nextL (by rw [hw.1]; exact hj)] at e'
  obtain ⟨⟨s, hs, e2⟩, _⟩ := nextAt_min hp hw (by omega) hr hj
  have h3 := (nextAt_min hp hw (by omega) hr ht).2 s hs
  have hs' := servedL_lt hs
  rw [(probB_row hp hr).1] at hs'
  have b1 := probB_move hp hs'.2.1 hj
  have b2 := probB_move hp hs'.2.1 ht
  unfold wsum at e2 h3
  omega

/-- the lists behind r requests in the i-th row -/
def rowLst (M S : List (List Int)) (l : List (List Int)) (i : Nat) : Nat → List (List Int)
  | 0 => l
  | r + 1 => if ixL (fun o => decide (o = normL (nextL M S (row l i) r))) (rowLst M S l i r) 0 < 0 then rowLst M S l i r ++ [normL (nextL M S (row l i) r)] else rowLst M S l i r
def ixAt (M S : List (List Int)) (l : List (List Int)) (i r : Nat) : Int := ixL (fun o => decide (o = normL (nextL M S (row l i) r))) (rowLst M S l i r) 0
def rowStp (M S : List (List Int)) (l : List (List Int)) (i : Nat) (r : Nat) : List Int := (List.range r).map fun r => if ixAt M S l i r < 0 then ((rowLst M S l i r).length : Int) else ixAt M S l i r
def rowGrw (M S : List (List Int)) (l : List (List Int)) (i : Nat) (r : Nat) : List Int := (List.range r).map fun r => leastL (nextL M S (row l i) r)
theorem rowStp_succ (M S : List (List Int)) (l : List (List Int)) (i r : Nat) : rowStp M S l i (r + 1) = rowStp M S l i r ++ [if ixAt M S l i r < 0 then ((rowLst M S l i r).length : Int) else ixAt M S l i r] := by simp [rowStp, List.range_succ]
theorem rowGrw_succ (M S : List (List Int)) (l : List (List Int)) (i r : Nat) : rowGrw M S l i (r + 1) = rowGrw M S l i r ++ [leastL (nextL M S (row l i) r)] := by simp [rowGrw, List.range_succ]
theorem rowStp_length (M S : List (List Int)) (l : List (List Int)) (i r : Nat) : (rowStp M S l i r).length = r := by simp [rowStp]
theorem rowGrw_length (M S : List (List Int)) (l : List (List Int)) (i r : Nat) : (rowGrw M S l i r).length = r := by simp [rowGrw]
theorem rowLst_pre (M S : List (List Int)) (l : List (List Int)) (i : Nat) : ∀ r, ∃ t, rowLst M S l i r = l ++ t ∧ t.length ≤ r
  | 0 => ⟨[], by simp [rowLst], by simp⟩
  | r + 1 => by
    obtain ⟨t, h1, h2⟩ := rowLst_pre M S l i r
    rw [rowLst]
    split
    · exact ⟨t ++ [normL (nextL M S (row l i) r)], by rw [h1, List.append_assoc], by simp; omega⟩
    · exact ⟨t, h1, by omega⟩
theorem rowLst_row {M S : List (List Int)} {l : List (List Int)} {i j : Nat} (hj : j < l.length) (r : Nat) : row (rowLst M S l i r) j = row l j := by
  obtain ⟨t, h1, _⟩ := rowLst_pre M S l i r
  rw [h1]
  simp [row, hj, List.getElem?_append_left]
theorem rowLst_len {M S : List (List Int)} (l : List (List Int)) (i r : Nat) : l.length ≤ (rowLst M S l i r).length ∧ (rowLst M S l i r).length ≤ l.length + r := by
  obtain ⟨t, h1, h2⟩ := rowLst_pre M S l i r
  rw [h1]
  simp
  omega
/-- all rows of a list are offsets -/
def offOk (M : List (List Int)) (l : List (List Int)) : Prop := ∀ x ∈ l, wOk M x 99
theorem rowLst_ok {M S : List (List Int)} (hp : probB M S = true) {l : List (List Int)} (hl : offOk M l) {i : Nat} (hi : i < l.length) : ∀ {r : Nat}, r ≤ S.length → offOk M (rowLst M S l i r)
  | 0, _ => hl
  | r + 1, hr => by
    have ih := rowLst_ok hp hl hi (r := r) (by omega)
    rw [rowLst]
    split
    · intro x hx
      rcases List.mem_append.1 hx with hx | hx
      · exact ih x hx
      · rw [List.mem_singleton.1 hx]
        exact (norm_ok hp (hl _ (row_mem hi)) (by omega)).1
    · exact ih

def offLst (M S : List (List Int)) (s : Nat) : Nat → List (List Int)
  | 0 => [row M s]
  | i + 1 => rowLst M S (offLst M S s i) i S.length
def offStp (M S : List (List Int)) (s : Nat) (i : Nat) : List (List Int) := (List.range i).map fun i => rowStp M S (offLst M S s i) i S.length
def offGrw (M S : List (List Int)) (s : Nat) (i : Nat) : List (List Int) := (List.range i).map fun i => rowGrw M S (offLst M S s i) i S.length
theorem offStp_succ (M S : List (List Int)) (s i : Nat) : offStp M S s (i + 1) = offStp M S s i ++ [rowStp M S (offLst M S s i) i S.length] := by simp [offStp, List.range_succ]
theorem offGrw_succ (M S : List (List Int)) (s i : Nat) : offGrw M S s (i + 1) = offGrw M S s i ++ [rowGrw M S (offLst M S s i) i S.length] := by simp [offGrw, List.range_succ]
theorem offStp_length (M S : List (List Int)) (s i : Nat) : (offStp M S s i).length = i := by simp [offStp]
theorem offGrw_length (M S : List (List Int)) (s i : Nat) : (offGrw M S s i).length = i := by simp [offGrw]
/-- the round at which the loop ends well -/
def offGo (M S : List (List Int)) (s : Nat) : Nat → Nat → Option Nat
  | 0, _ => none
  | f + 1, i => if i < (offLst M S s i).length then (if 400 < (offLst M S s (i + 1)).length then none else offGo M S s f (i + 1)) else some i
def offEnd (M S : List (List Int)) (s : Nat) : Option Nat := offGo M S s 500 0
def offB (M S : List (List Int)) (s : Int) : Bool := startB M S s [] && (offEnd M S s.toNat).isSome
def offN (M S : List (List Int)) (s : Int) : Nat := (offEnd M S s.toNat).getD 0
def offsL (M S : List (List Int)) (s : Int) : List (List Int) := if offB M S s = true then offLst M S s.toNat (offN M S s) else []
def stepsL (M S : List (List Int)) (s : Int) : List (List Int) := if offB M S s = true then offStp M S s.toNat (offN M S s) else []
def growsL (M S : List (List Int)) (s : Int) : List (List Int) := if offB M S s = true then offGrw M S s.toNat (offN M S s) else []
theorem offGo_more {M S : List (List Int)} {s f i : Nat} (h : i < (offLst M S s i).length) (h4 : ¬ 400 < (offLst M S s (i + 1)).length) : offGo M S s (f + 1) i = offGo M S s f (i + 1) := by rw [offGo, if_pos h, if_neg h4]
theorem offGo_big {M S : List (List Int)} {s f i : Nat} (h : i < (offLst M S s i).length) (h4 : 400 < (offLst M S s (i + 1)).length) : offGo M S s (f + 1) i = none := by rw [offGo, if_pos h, if_pos h4]
theorem offGo_done {M S : List (List Int)} {s f i : Nat} (h : ¬ i < (offLst M S s i).length) : offGo M S s (f + 1) i = some i := by rw [offGo, if_neg h]
end Go.Proofs.YtmgcfnciejfpbaaGreat
