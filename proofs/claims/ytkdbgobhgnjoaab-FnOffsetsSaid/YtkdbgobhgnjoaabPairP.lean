/- Pairs of a state and an offset, and what requests do at them: the lists that the loops make. -/
import Derived.Test.YtkdbgobhgnjoaabOffsX
import Derived.Test.YtkdbgobhgnjoaabRun
namespace Go.Proofs.Ytkdbgobhgnjoaab
open Go.RowKit

theorem offLst_len {M S : List (List Int)} {s : Nat} : ∀ {j i : Nat}, i ≤ j → (offLst M S s i).length ≤ (offLst M S s j).length
  | 0, i, h => by
    have : i = 0 := by omega
    subst this
    exact Nat.le_refl _
  | j + 1, i, h => by
    by_cases e : i = j + 1
    · subst e; exact Nat.le_refl _
    · have h1 := offLst_len (M := M) (S := S) (s := s) (j := j) (i := i) (by omega)
      have h2 := (rowLst_len (M := M) (S := S) (offLst M S s j) j S.length).1
      have h3 : offLst M S s (j + 1) = rowLst M S (offLst M S s j) j S.length := rfl
      rw [h3]
      omega
theorem offGo_len {M S : List (List Int)} {s n : Nat} : ∀ (f i : Nat), offGo M S s f i = some n → i ≤ (offLst M S s i).length → (offLst M S s n).length = n
  | 0, _, h, _ => by simp [offGo] at h
  | f + 1, i, h, hl => by
    rw [offGo] at h
    split at h
    · rename_i hlt
      split at h
      · cases h
      · have h2 := offLst_len (M := M) (S := S) (s := s) (i := i) (j := i + 1) (by omega)
        exact offGo_len f (i + 1) h (by omega)
    · cases h
      omega
theorem offEnd_len {M S : List (List Int)} {s n : Nat} (h : offEnd M S s = some n) : (offLst M S s n).length = n := offGo_len 500 0 h (Nat.zero_le _)
theorem offLst_row {M S : List (List Int)} {s : Nat} : ∀ {n i j : Nat}, i ≤ n → j < (offLst M S s i).length → row (offLst M S s i) j = row (offLst M S s n) j
  | 0, i, j, h, _ => by
    have : i = 0 := by omega
    subst this
    rfl
  | n + 1, i, j, h, hj => by
    by_cases e : i = n + 1
    · subst e; rfl
    · rw [offLst_row (n := n) (by omega) hj]
      have h1 := offLst_len (M := M) (S := S) (s := s) (i := i) (j := n) (by omega)
      exact (rowLst_row (M := M) (S := S) (i := n) (Nat.lt_of_lt_of_le hj h1) S.length).symm
theorem offGo_lt' {M S : List (List Int)} {s n : Nat} : ∀ (f i0 : Nat), offGo M S s f i0 = some n → ∀ i, i0 ≤ i → i < n → i < (offLst M S s i).length
  | 0, _, h, _, _, _ => by simp [offGo] at h
  | f + 1, i0, h, i, h0, hi => by
    rw [offGo] at h
    split at h
    · rename_i hlt
      split at h
      · cases h
      · by_cases e : i = i0
        · subst e; exact hlt
        · exact offGo_lt' f (i0 + 1) h i (by omega) hi
    · cases h
      omega
theorem offGo_lt {M S : List (List Int)} {s n i : Nat} (h : offEnd M S s = some n) (hi : i < n) : i < (offLst M S s i).length := offGo_lt' 500 0 h i (Nat.zero_le _) hi
theorem row_offStp {M S : List (List Int)} {s n i : Nat} (h : i < n) : row (offStp M S s n) i = rowStp M S (offLst M S s i) i S.length := by simp [offStp, row, h]
theorem row_offGrw {M S : List (List Int)} {s n i : Nat} (h : i < n) : row (offGrw M S s n) i = rowGrw M S (offLst M S s i) i S.length := by simp [offGrw, row, h]
theorem nth_rowStp {M S l : List (List Int)} {i r n : Nat} (h : r < n) : nth (rowStp M S l i n) r = if ixAt M S l i r < 0 then ((rowLst M S l i r).length : Int) else ixAt M S l i r := by simp [rowStp, nth, h]
theorem rowLst_mono {M S l : List (List Int)} {i : Nat} : ∀ {j r : Nat}, r ≤ j → (rowLst M S l i r).length ≤ (rowLst M S l i j).length
  | 0, r, h => by
    have : r = 0 := by omega
    subst this
    exact Nat.le_refl _
  | j + 1, r, h => by
    by_cases e : r = j + 1
    · subst e; exact Nat.le_refl _
    · have h1 := rowLst_mono (M := M) (S := S) (l := l) (i := i) (j := j) (r := r) (by omega)
      rw [rowLst]
      split
      · rw [List.length_append]; omega
      · exact h1
theorem stp_in {M S : List (List Int)} {s n i r : Nat} (h : offEnd M S s = some n) (hi : i < n) (hr : r < S.length) : 0 ≤ cell (offStp M S s n) i r ∧ cell (offStp M S s n) i r < n := by
  have hn := offEnd_len h
  have h1 := offLst_len (M := M) (S := S) (s := s) (i := i + 1) (j := n) (by omega)
  have h2 : offLst M S s (i + 1) = rowLst M S (offLst M S s i) i S.length := rfl
  rw [h2] at h1
  unfold cell
  rw [row_offStp hi, nth_rowStp hr]
  have h3 := rowLst_mono (M := M) (S := S) (l := offLst M S s i) (i := i) (j := S.length) (r := r + 1) (by omega)
  have h5 := rowLst_mono (M := M) (S := S) (l := offLst M S s i) (i := i) (j := r + 1) (r := r) (by omega)
  have h4 := ixL_in (p := fun o => decide (o = normL (nextL M S (row (offLst M S s i) i) r))) (rowLst M S (offLst M S s i) i r) 0
  by_cases hneg : ixAt M S (offLst M S s i) i r < 0
  · rw [if_pos hneg]
    have : (rowLst M S (offLst M S s i) i (r + 1)).length = (rowLst M S (offLst M S s i) i r).length + 1 := by
      rw [show rowLst M S (offLst M S s i) i (r + 1) = if ixAt M S (offLst M S s i) i r < 0 then rowLst M S (offLst M S s i) i r ++ [normL (nextL M S (row (offLst M S s i) i) r)] else rowLst M S (offLst M S s i) i r from rfl, if_pos hneg, List.length_append]; rfl
    omega
  · rw [if_neg hneg]
    rcases h4 with h4 | h4
    · exact absurd (by show ixL _ _ _ < 0; omega) hneg
    · have h4' : (0 : Int) ≤ ixAt M S (offLst M S s i) i r ∧ ixAt M S (offLst M S s i) i r < 0 + ((rowLst M S (offLst M S s i) i r).length : Int) := h4
      omega

/-- a problem, an algorithm, the steps and the growths of its offsets -/
structure Gr where
  M : List (List Int)
  S : List (List Int)
  N : List (List Int)
  T : List (List Int)
  G : List (List Int)
structure Gr.Ok (g : Gr) (n : Nat) : Prop where
  prob : probB g.M g.S = true
  alg : algB g.M g.S g.N = true
  tl : g.T.length = n
  gl : g.G.length = n
  tr : ∀ i, i < n → (row g.T i).length = g.S.length
  gr : ∀ i, i < n → (row g.G i).length = g.S.length
  tv : ∀ i r, i < n → r < g.S.length → 0 ≤ cell g.T i r ∧ cell g.T i r < n
  gv : ∀ i r, i < n → r < g.S.length → 0 ≤ cell g.G i r ∧ cell g.G i r ≤ 1000
  n1 : 1 ≤ n ∧ n ≤ 400

theorem nth_rowGrw {M S l : List (List Int)} {i r n : Nat} (h : r < n) : nth (rowGrw M S l i n) r = leastL (nextL M S (row l i) r) := by simp [rowGrw, nth, h]
theorem gr_ok {M S N : List (List Int)} {s : Int} {n : Nat} (h0 : startB M S s [] = true) (ha : algB M S N = true) (h : offEnd M S s.toNat = some n) : Gr.Ok ⟨M, S, N, offStp M S s.toNat n, offGrw M S s.toNat n⟩ n where
  prob := startB_prob h0
  alg := ha
  tl := offStp_length _ _ _ _
  gl := offGrw_length _ _ _ _
  tr := fun i hi => by
    show (row (offStp M S s.toNat n) i).length = _
    rw [row_offStp hi, rowStp_length]
  gr := fun i hi => by
    show (row (offGrw M S s.toNat n) i).length = _
    rw [row_offGrw hi, rowGrw_length]
  tv := fun i r hi hr => stp_in h hi hr
  gv := fun i r hi hr => by
    obtain ⟨h1, h2, h3⟩ := offEnd_some h0 h
    have hlen := offEnd_len h
    show 0 ≤ cell (offGrw M S s.toNat n) i r ∧ cell (offGrw M S s.toNat n) i r ≤ 1000
    unfold cell
    rw [row_offGrw hi, nth_rowGrw hr]
    have hp := startB_prob h0
    have hs := startB_state h0
    have hok : ∀ i, offOk M (offLst M S s.toNat i) ∨ ¬ i ≤ n := fun i => by
      by_cases hin : i ≤ n
      · left
        intro x hx
        obtain ⟨j, hj, rfl⟩ := mem_iff_row.1 hx
        have : row (offLst M S s.toNat i) j = row (offLst M S s.toNat n) j := offLst_row hin hj
        rw [this]
        exact h3 _ (row_mem (Nat.lt_of_lt_of_le hj (offLst_len hin)))
      · exact .inr hin
    have hi2 : i < (offLst M S s.toNat i).length := offGo_lt h hi
    rcases hok i with hoki | hc
    · have := norm_ok hp (hoki _ (row_mem hi2)) hr
      omega
    · omega
  n1 := by
    obtain ⟨h1, h2, h3⟩ := offEnd_some h0 h
    have hlen := offEnd_len h
    have := offLst_len (M := M) (S := S) (s := s.toNat) (i := 0) (j := n) (by omega)
    have e : (offLst M S s.toNat 0).length = 1 := rfl
    omega

def stOf (l : List (List Int)) (i : Nat) : Nat := (cell l i 0).toNat
def ofOf (l : List (List Int)) (i : Nat) : Nat := (cell l i 1).toNat
/-- the pair behind a request -/
def nxP (g : Gr) (l : List (List Int)) (i r : Nat) : List Int := [cell g.N (stOf l i) r, cell g.T (ofOf l i) r]
/-- the pairs behind r requests in the i-th row -/
def rowPr (g : Gr) (l : List (List Int)) (i : Nat) : Nat → List (List Int)
  | 0 => l
  | r + 1 => if ixL (fun o => decide (o = nxP g l i r)) (rowPr g l i r) 0 < 0 then rowPr g l i r ++ [nxP g l i r] else rowPr g l i r
def toAt (g : Gr) (l : List (List Int)) (i r : Nat) : Int := ixL (fun o => decide (o = nxP g l i r)) (rowPr g l i r) 0
def toOf (g : Gr) (l : List (List Int)) (i r : Nat) : Int := if toAt g l i r < 0 then ((rowPr g l i r).length : Int) else toAt g l i r
/-- what a request does at a pair: the next pair, the cost, the growth -/
def stpRow (g : Gr) (l : List (List Int)) (i r : Nat) : List Int := [toOf g l i r, cell g.M (stOf l i) (cell g.N (stOf l i) r).toNat + cell g.S r (cell g.N (stOf l i) r).toNat, cell g.G (ofOf l i) r]
def rowSt (g : Gr) (l : List (List Int)) (i r : Nat) : List (List Int) := (List.range r).map fun r => stpRow g l i r
def rowEd (g : Gr) (l : List (List Int)) (i r : Nat) : List (List Int) := (List.range r).map fun r => (i : Int) :: stpRow g l i r
theorem rowSt_succ (g : Gr) (l : List (List Int)) (i r : Nat) : rowSt g l i (r + 1) = rowSt g l i r ++ [stpRow g l i r] := by simp [rowSt, List.range_succ]
theorem rowEd_succ (g : Gr) (l : List (List Int)) (i r : Nat) : rowEd g l i (r + 1) = rowEd g l i r ++ [(i : Int) :: stpRow g l i r] := by simp [rowEd, List.range_succ]
theorem rowSt_length (g : Gr) (l : List (List Int)) (i r : Nat) : (rowSt g l i r).length = r := by simp [rowSt]
theorem rowEd_length (g : Gr) (l : List (List Int)) (i r : Nat) : (rowEd g l i r).length = r := by simp [rowEd]
theorem row_rowSt {g : Gr} {l : List (List Int)} {i r q : Nat} (h : q < r) : row (rowSt g l i r) q = stpRow g l i q := by simp [rowSt, row, h]
theorem row_rowEd {g : Gr} {l : List (List Int)} {i r q : Nat} (h : q < r) : row (rowEd g l i r) q = (i : Int) :: stpRow g l i q := by simp [rowEd, row, h]
theorem rowPr_pre (g : Gr) (l : List (List Int)) (i : Nat) : ∀ r, ∃ t, rowPr g l i r = l ++ t ∧ t.length ≤ r
  | 0 => ⟨[], by simp [rowPr], by simp⟩
  | r + 1 => by
    obtain ⟨t, h1, h2⟩ := rowPr_pre g l i r
    rw [rowPr]
    split
    · exact ⟨t ++ [nxP g l i r], by rw [h1, List.append_assoc], by simp; omega⟩
    · exact ⟨t, h1, by omega⟩
theorem rowPr_row {g : Gr} {l : List (List Int)} {i j : Nat} (hj : j < l.length) (r : Nat) : row (rowPr g l i r) j = row l j := by
  obtain ⟨t, h1, _⟩ := rowPr_pre g l i r
  rw [h1]
  simp [row, hj, List.getElem?_append_left]
theorem rowPr_len (g : Gr) (l : List (List Int)) (i r : Nat) : l.length ≤ (rowPr g l i r).length ∧ (rowPr g l i r).length ≤ l.length + r := by
  obtain ⟨t, h1, h2⟩ := rowPr_pre g l i r
  rw [h1]
  simp
  omega
theorem rowPr_mono {g : Gr} {l : List (List Int)} {i : Nat} : ∀ {j r : Nat}, r ≤ j → (rowPr g l i r).length ≤ (rowPr g l i j).length
  | 0, r, h => by
    have : r = 0 := by omega
    subst this
    exact Nat.le_refl _
  | j + 1, r, h => by
    by_cases e : r = j + 1
    · subst e; exact Nat.le_refl _
    · have h1 := rowPr_mono (g := g) (l := l) (i := i) (j := j) (r := r) (by omega)
      rw [rowPr]
      split
      · rw [List.length_append]; omega
      · exact h1
/-- all rows of a list are pairs: a state, and one of n offsets -/
def prOk (g : Gr) (n : Nat) (l : List (List Int)) : Prop := ∀ x ∈ l, ∃ a b : Nat, x = [(a : Int), (b : Int)] ∧ a < g.M.length ∧ b < n
theorem prOk_at {g : Gr} {n : Nat} {l : List (List Int)} (h : prOk g n l) {i : Nat} (hi : i < l.length) : row l i = [(stOf l i : Int), (ofOf l i : Int)] ∧ stOf l i < g.M.length ∧ ofOf l i < n := by
  obtain ⟨a, b, e, h1, h2⟩ := h _ (row_mem hi)
  have e1 : stOf l i = a := by simp [stOf, cell, e, nth]
  have e2 : ofOf l i = b := by simp [ofOf, cell, e, nth]
  rw [e1, e2]
  exact ⟨e, h1, h2⟩
theorem nxP_ok {g : Gr} {n : Nat} (hg : g.Ok n) {l : List (List Int)} (h : prOk g n l) {i r : Nat} (hi : i < l.length) (hr : r < g.S.length) :
    ∃ a b : Nat, nxP g l i r = [(a : Int), (b : Int)] ∧ a < g.M.length ∧ b < n ∧ cell g.N (stOf l i) r = a ∧ cell g.T (ofOf l i) r = b := by
  obtain ⟨_, h1, h2⟩ := prOk_at h hi
  have q1 := stOk_in (algB_at hg.alg h1 hr)
  have q2 := hg.tv _ _ h2 hr
  refine ⟨(cell g.N (stOf l i) r).toNat, (cell g.T (ofOf l i) r).toNat, ?_, by omega, by omega, by omega, by omega⟩
  rw [nxP, Int.toNat_of_nonneg q1.1, Int.toNat_of_nonneg q2.1]
theorem rowPr_ok {g : Gr} {n : Nat} (hg : g.Ok n) {l : List (List Int)} (hl : prOk g n l) {i : Nat} (hi : i < l.length) : ∀ {r : Nat}, r ≤ g.S.length → prOk g n (rowPr g l i r)
  | 0, _ => hl
  | r + 1, hr => by
    have ih := rowPr_ok hg hl hi (r := r) (by omega)
    rw [rowPr]
    split
    · intro x hx
      rcases List.mem_append.1 hx with hx | hx
      · exact ih x hx
      · rw [List.mem_singleton.1 hx]
        obtain ⟨a, b, e, h1, h2, _⟩ := nxP_ok hg hl hi (r := r) (by omega)
        exact ⟨a, b, e, h1, h2⟩
    · exact ih
theorem toOf_in {g : Gr} {l : List (List Int)} {i r m : Nat} (hr : r < m) : 0 ≤ toOf g l i r ∧ toOf g l i r < (rowPr g l i m).length := by
  have h3 := rowPr_mono (g := g) (l := l) (i := i) (j := m) (r := r + 1) (by omega)
  have h5 := rowPr_mono (g := g) (l := l) (i := i) (j := r + 1) (r := r) (by omega)
  have h4 := ixL_in (p := fun o => decide (o = nxP g l i r)) (rowPr g l i r) 0
  unfold toOf
  by_cases hneg : toAt g l i r < 0
  · rw [if_pos hneg]
    have : (rowPr g l i (r + 1)).length = (rowPr g l i r).length + 1 := by
      rw [show rowPr g l i (r + 1) = if toAt g l i r < 0 then rowPr g l i r ++ [nxP g l i r] else rowPr g l i r from rfl, if_pos hneg, List.length_append]; rfl
    omega
  · rw [if_neg hneg]
    rcases h4 with h4 | h4
    · exact absurd (by show ixL _ _ _ < 0; omega) hneg
    · have h4' : (0 : Int) ≤ toAt g l i r ∧ toAt g l i r < 0 + ((rowPr g l i r).length : Int) := h4
      omega
theorem stp_cost {g : Gr} {n : Nat} (hg : g.Ok n) {l : List (List Int)} (hl : prOk g n l) {i r : Nat} (hi : i < l.length) (hr : r < g.S.length) :
    0 ≤ cell g.M (stOf l i) (cell g.N (stOf l i) r).toNat + cell g.S r (cell g.N (stOf l i) r).toNat ∧ cell g.M (stOf l i) (cell g.N (stOf l i) r).toNat + cell g.S r (cell g.N (stOf l i) r).toNat ≤ 119 := by
  obtain ⟨_, h1, _⟩ := prOk_at hl hi
  have q1 := stOk_in (algB_at hg.alg h1 hr)
  have b1 := probB_move hg.prob h1 (y := (cell g.N (stOf l i) r).toNat) (by omega)
  have b2 := probB_serve hg.prob hr (x := (cell g.N (stOf l i) r).toNat) (by omega)
  omega

def prLst (g : Gr) (s : Nat) : Nat → List (List Int)
  | 0 => [[(s : Int), 0]]
  | i + 1 => rowPr g (prLst g s i) i g.S.length
def prSt (g : Gr) (s : Nat) (i : Nat) : List (List (List Int)) := (List.range i).map fun i => rowSt g (prLst g s i) i g.S.length
def prEd (g : Gr) (s : Nat) : Nat → List (List Int)
  | 0 => []
  | i + 1 => prEd g s i ++ rowEd g (prLst g s i) i g.S.length
theorem prSt_succ (g : Gr) (s i : Nat) : prSt g s (i + 1) = prSt g s i ++ [rowSt g (prLst g s i) i g.S.length] := by simp [prSt, List.range_succ]
theorem prSt_length (g : Gr) (s i : Nat) : (prSt g s i).length = i := by simp [prSt]
theorem prEd_length (g : Gr) (s : Nat) : ∀ i, (prEd g s i).length = i * g.S.length
  | 0 => by simp [prEd]
  | i + 1 => by rw [prEd, List.length_append, prEd_length g s i, rowEd_length, Nat.add_mul, Nat.one_mul]
theorem prLst_len {g : Gr} {s : Nat} : ∀ {j i : Nat}, i ≤ j → (prLst g s i).length ≤ (prLst g s j).length
  | 0, i, h => by
    have : i = 0 := by omega
    subst this
    exact Nat.le_refl _
  | j + 1, i, h => by
    by_cases e : i = j + 1
    · subst e; exact Nat.le_refl _
    · have h1 := prLst_len (g := g) (s := s) (j := j) (i := i) (by omega)
      have h2 := (rowPr_len g (prLst g s j) j g.S.length).1
      have h3 : prLst g s (j + 1) = rowPr g (prLst g s j) j g.S.length := rfl
      rw [h3]
      omega
/-- the round at which the loop ends well -/
def prGo (g : Gr) (s : Nat) : Nat → Nat → Option Nat
  | 0, _ => none
  | f + 1, i => if i < (prLst g s i).length then (if 600 < (prLst g s (i + 1)).length then none else prGo g s f (i + 1)) else some i
def prEnd (g : Gr) (s : Nat) : Option Nat := prGo g s 700 0
theorem prGo_more {g : Gr} {s f i : Nat} (h : i < (prLst g s i).length) (h4 : ¬ 600 < (prLst g s (i + 1)).length) : prGo g s (f + 1) i = prGo g s f (i + 1) := by rw [prGo, if_pos h, if_neg h4]
theorem prGo_big {g : Gr} {s f i : Nat} (h : i < (prLst g s i).length) (h4 : 600 < (prLst g s (i + 1)).length) : prGo g s (f + 1) i = none := by rw [prGo, if_pos h, if_pos h4]
theorem prGo_done {g : Gr} {s f i : Nat} (h : ¬ i < (prLst g s i).length) : prGo g s (f + 1) i = some i := by rw [prGo, if_neg h]
theorem prGo_some {g : Gr} {n : Nat} (hg : g.Ok n) {s m : Nat} : ∀ (f i : Nat), prGo g s f i = some m → i ≤ (prLst g s i).length → (prLst g s i).length ≤ 600 → prOk g n (prLst g s i) → (prLst g s m).length = m ∧ m ≤ 600 ∧ prOk g n (prLst g s m)
  | 0, _, h, _, _, _ => by simp [prGo] at h
  | f + 1, i, h, hl, h6, ho => by
    rw [prGo] at h
    split at h
    · rename_i hlt
      split at h
      · cases h
      · have h2 := prLst_len (g := g) (s := s) (i := i) (j := i + 1) (by omega)
        exact prGo_some hg f (i + 1) h (by omega) (by omega) (rowPr_ok hg ho hlt (Nat.le_refl _))
    · cases h
      exact ⟨by omega, by omega, ho⟩
theorem prOk_first {g : Gr} {n s : Nat} (hs : s < g.M.length) (hn : 1 ≤ n) : prOk g n (prLst g s 0) := by
  intro x hx
  have hx' : x ∈ [[(s : Int), 0]] := hx
  rw [List.mem_singleton.1 hx']
  exact ⟨s, 0, rfl, hs, hn⟩
theorem prEnd_some {g : Gr} {n s m : Nat} (hg : g.Ok n) (hs : s < g.M.length) (h : prEnd g s = some m) : (prLst g s m).length = m ∧ m ≤ 600 ∧ prOk g n (prLst g s m) :=
  prGo_some hg 700 0 h (Nat.zero_le _) (by show [[(s : Int), 0]].length ≤ 600; simp) (prOk_first hs hg.n1.1)
theorem prGo_lt' {g : Gr} {s n : Nat} : ∀ (f i0 : Nat), prGo g s f i0 = some n → ∀ i, i0 ≤ i → i < n → i < (prLst g s i).length
  | 0, _, h, _, _, _ => by simp [prGo] at h
  | f + 1, i0, h, i, h0, hi => by
    rw [prGo] at h
    split at h
    · rename_i hlt
      split at h
      · cases h
      · by_cases e : i = i0
        · subst e; exact hlt
        · exact prGo_lt' f (i0 + 1) h i (by omega) hi
    · cases h
      omega
theorem prGo_lt {g : Gr} {s n i : Nat} (h : prEnd g s = some n) (hi : i < n) : i < (prLst g s i).length := prGo_lt' 700 0 h i (Nat.zero_le _) hi
theorem prLst_row {g : Gr} {s : Nat} : ∀ {n i j : Nat}, i ≤ n → j < (prLst g s i).length → row (prLst g s i) j = row (prLst g s n) j
  | 0, i, j, h, _ => by
    have : i = 0 := by omega
    subst this
    rfl
  | n + 1, i, j, h, hj => by
    by_cases e : i = n + 1
    · subst e; rfl
    · rw [prLst_row (n := n) (by omega) hj]
      have h1 := prLst_len (g := g) (s := s) (i := i) (j := n) (by omega)
      exact (rowPr_row (g := g) (i := n) (Nat.lt_of_lt_of_le hj h1) g.S.length).symm
/-- the step of a pair and a request -/
def stepAt (g : Gr) (s i r : Nat) : List Int := stpRow g (prLst g s i) i r
theorem prSt_at {g : Gr} {s m i : Nat} (hi : i < m) : (prSt g s m).getD i [] = rowSt g (prLst g s i) i g.S.length := by simp [prSt, hi]
theorem row_prEd {g : Gr} {s : Nat} : ∀ {m i r : Nat}, i < m → r < g.S.length → row (prEd g s m) (i * g.S.length + r) = (i : Int) :: stepAt g s i r
  | 0, _, _, h, _ => by omega
  | m + 1, i, r, hi, hr => by
    rw [prEd]
    by_cases h : i = m
    · subst h
      have hl := prEd_length g s i
      unfold row
      rw [List.getD_eq_getElem?_getD, List.getElem?_append_right (by omega), hl, Nat.add_sub_cancel_left, ← List.getD_eq_getElem?_getD]
      exact row_rowEd hr
    · have ih := row_prEd (g := g) (s := s) (m := m) (i := i) (r := r) (by omega) hr
      have hl := prEd_length g s m
      have hlt : i * g.S.length + r < m * g.S.length := by
        have h1 : (i + 1) * g.S.length ≤ m * g.S.length := Nat.mul_le_mul_right _ (by omega)
        rw [Nat.add_mul, Nat.one_mul] at h1
        omega
      unfold row at ih ⊢
      rw [List.getD_eq_getElem?_getD, List.getElem?_append_left (by omega), ← List.getD_eq_getElem?_getD]
      exact ih
theorem stepAt_in {g : Gr} {n s m i r : Nat} (hg : g.Ok n) (hs : s < g.M.length) (h : prEnd g s = some m) (hi : i < m) (hr : r < g.S.length) :
    ∃ t c y : Int, stepAt g s i r = [t, c, y] ∧ 0 ≤ t ∧ t < m ∧ 0 ≤ c ∧ c ≤ 119 ∧ 0 ≤ y ∧ y ≤ 1000 := by
  obtain ⟨h1, h2, h3⟩ := prEnd_some hg hs h
  have hlt := prGo_lt h hi
  have hok : prOk g n (prLst g s i) := by
    intro x hx
    obtain ⟨j, hj, rfl⟩ := mem_iff_row.1 hx
    rw [prLst_row (n := m) (by omega) hj]
    exact h3 _ (row_mem (Nat.lt_of_lt_of_le hj (prLst_len (by omega))))
  have q1 := toOf_in (g := g) (l := prLst g s i) (i := i) hr
  have q2 := prLst_len (g := g) (s := s) (i := i + 1) (j := m) (by omega)
  have q3 : prLst g s (i + 1) = rowPr g (prLst g s i) i g.S.length := rfl
  have q4 := stp_cost hg hok hlt hr
  have q5 := hg.gv (ofOf (prLst g s i) i) r (prOk_at hok hlt).2.2 hr
  rw [q3] at q2
  exact ⟨_, _, _, rfl, by omega, by omega, by omega, by omega, by omega, by omega⟩

end Go.Proofs.Ytkdbgobhgnjoaab
