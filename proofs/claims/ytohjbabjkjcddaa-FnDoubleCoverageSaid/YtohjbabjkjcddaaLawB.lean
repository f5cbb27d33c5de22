/- The laws' own helpers on rows of ints and on problems. -/
import Derived.Test.YtohjbabjkjcddaaLawA
namespace Go.Proofs.Ytohjbabjkjcddaa
open Go.RowKit

theorem Try.infoInts : (Try.prog.info? 24).map (fun i => (i.zero, i.size, i.bytes)) = some (some (.slice none 0 0), 1, 24) := by kernel_rfl
theorem elemInts : Elem Try.prog 29 24 (.slice none 0 0) 1 24 := ⟨Try.underlying29, info_parts Try.infoInts, rfl, by decide⟩

def sumLen : List (List Int) → Nat
  | [] => 0
  | r :: M => r.length + sumLen M
theorem sumLen_take {M : List (List Int)} {k : Nat} (h : k < M.length) : sumLen (M.take (k + 1)) = sumLen (M.take k) + (row M k).length := by
  induction M generalizing k with
  | nil => simp at h
  | cons r M ih =>
    cases k with
    | zero => simp [sumLen, row]
    | succ k =>
      have := ih (k := k) (by simpa using h)
      simp only [List.take_succ_cons, sumLen] at this ⊢
      rw [this]
      simp [row, Nat.add_assoc]
theorem sumLen_take_le (M : List (List Int)) (k : Nat) : sumLen (M.take k) ≤ sumLen M := by
  induction M generalizing k with
  | nil => simp [sumLen]
  | cons r M ih =>
    cases k with
    | zero => simp [sumLen]
    | succ k => simp only [List.take_succ_cons, sumLen]; have := ih k; omega
theorem sumLen_row_le {M : List (List Int)} {k : Nat} (h : k < M.length) : (row M k).length ≤ sumLen M := by
  have := sumLen_take h
  have := sumLen_take_le M (k + 1)
  omega

/-- what is left of a count -/
def leftOf (left : Int) (n : Nat) : Int := if left - n < 0 then -1 else left - n

theorem toIntSS_step {e1 e2 : Nat} {g c n : Nat} {M : List (List Int)} {vs : List Value} {k : Nat} (h : k < M.length) (hv : vs.length = k) (u : Value) :
    (⟨e1, 1, .slice (some ⟨g, 0, none⟩) n c, n, (vs ++ List.replicate (M.length - k) (Value.slice none 0 0)).set k u⟩ :: (List.zipWith (intRowOf e2) vs (M.take k) ++ [intRowOf e2 u (row M k)]) : List Row)
      = ⟨e1, 1, .slice (some ⟨g, 0, none⟩) n c, n, (vs ++ [u]) ++ List.replicate (M.length - (k + 1)) (Value.slice none 0 0)⟩ :: List.zipWith (intRowOf e2) (vs ++ [u]) (M.take (k + 1)) := by
  have h1 : M.length - k = (M.length - (k + 1)) + 1 := by omega
  rw [h1, List.replicate_succ, List.set_append, if_neg (by omega), hv, take_succ_row h, List.zipWith_append (by simp; omega)]
  simp

def eqR (xs ys : List (List Int)) : Bool := decide (xs = ys)
theorem eqR_iff {xs ys : List (List Int)} : eqR xs ys = true ↔ xs = ys := by simp [eqR]

/-- the marks of rows, from k on -/
def markR : List (List Int) → Int → List (List Int)
  | [], _ => []
  | r :: M, k => iota k r.length :: markR M (k + r.length)
theorem markR_length (M : List (List Int)) (k : Int) : (markR M k).length = M.length := by
  induction M generalizing k with
  | nil => rfl
  | cons r M ih => simp [markR, ih]
theorem markR_row {M : List (List Int)} {k : Int} {j : Nat} (h : j < M.length) : row (markR M k) j = iota (k + sumLen (M.take j)) (row M j).length := by
  induction M generalizing k j with
  | nil => simp at h
  | cons r M ih =>
    cases j with
    | zero => simp [markR, row, sumLen]
    | succ j =>
      have := ih (k := k + r.length) (j := j) (by simpa using h)
      simp only [markR, row, List.getD_cons_succ, List.take_succ_cons, sumLen] at this ⊢
      rw [this]
      congr 1
      omega
theorem markR_sumLen (M : List (List Int)) (k : Int) : sumLen (markR M k) = sumLen M := by
  induction M generalizing k with
  | nil => rfl
  | cons r M ih => simp [markR, sumLen, ih, iota_length]
theorem mark_set {M : List (List Int)} {k : Int} {j : Nat} (h : j < M.length) :
    ((markR M k).take j ++ M.drop j).set j (iota (k + sumLen (M.take j)) (row M j).length) = (markR M k).take (j + 1) ++ M.drop (j + 1) := by
  have h1 : M.drop j = M[j] :: M.drop (j + 1) := List.drop_eq_getElem_cons h
  have h2 : ((markR M k).take j).length = j := by simp [markR_length]; omega
  rw [h1, List.set_append, if_neg (by omega), h2, take_succ_row (by rw [markR_length]; exact h), markR_row h]
  simp only [Nat.sub_self, List.set_cons_zero, List.append_assoc, List.singleton_append]
theorem mark_get {M : List (List Int)} {k : Int} {j : Nat} (h : j < M.length) : ((markR M k).take j ++ M.drop j)[j]? = some (row M j) := by
  have h2 : ((markR M k).take j).length = j := by simp [markR_length]; omega
  rw [List.getElem?_append_right (by omega), h2]
  simp [row, h]

/-- the j-th of rows that are owned -/
theorem Own.rowAt {w : World} {B e1 e2 : Nat} {v : Value} {vs : List Value} {M : List (List Int)} {R : List Row} (_h : Own w B (rowsOf e1 e2 v vs M ++ R)) {j : Nat} {r : List Int} {u : Value} (hr : M[j]? = some r) (hu : vs[j]? = some u) :
    (rowsOf e1 e2 v vs M ++ R)[j + 1]? = some (intRowOf e2 u r) := by
  have h1 : j < M.length := (List.getElem?_eq_some_iff.1 hr).1
  have h2 : j < vs.length := (List.getElem?_eq_some_iff.1 hu).1
  simp only [rowsOf, List.cons_append, List.getElem?_cons_succ]
  rw [List.getElem?_append_left (by simp; omega), List.getElem?_zipWith, hu, hr]
theorem rowsOf_set {e1 e2 : Nat} {v : Value} {vs : List Value} {M : List (List Int)} {R : List Row} {j : Nat} {r : List Int} {u : Value} (hj : j < M.length) (hu : vs[j]? = some u) :
    (rowsOf e1 e2 v vs M ++ R).set (j + 1) (intRowOf e2 u r) = rowsOf e1 e2 v vs (M.set j r) ++ R := by
  have h2 : j < vs.length := (List.getElem?_eq_some_iff.1 hu).1
  simp only [rowsOf, List.cons_append, List.set_cons_succ]
  rw [List.set_append, if_pos (by simp; omega), zipWith_set _ _ _ _ _ _ hu]

end Go.Proofs.Ytohjbabjkjcddaa
