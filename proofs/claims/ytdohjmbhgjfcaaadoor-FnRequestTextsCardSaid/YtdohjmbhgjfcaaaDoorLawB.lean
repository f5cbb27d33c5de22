/- The laws' own helpers on rows of ints and on problems. -/
import Derived.Test.YtdohjmbhgjfcaaaDoorLawA
namespace Go.Proofs.YtdohjmbhgjfcaaaDoor
open Go.RowKit

theorem Tryd.infoInts : (Tryd.prog.info? 41).map (fun i => (i.zero, i.size, i.bytes)) = some (some (.slice none 0 0), 1, 24) := by kernel_rfl
theorem elemInts : Elem Tryd.prog 32 41 (.slice none 0 0) 1 24 := ⟨Tryd.underlying32, info_parts Tryd.infoInts, rfl, by decide⟩

def sumLen : List (List Int) → Nat
  | [] => 0
  | r :: M => r.length + sumLen M
theorem sumLen_take {M : List (List Int)} {k : Nat} (h : k < M.length) : sumLen (M.take (k + 1)) = sumLen (M.take k) + (row M k).length := by
  induction M generalizing k with
  | nil => simp at h
  | cons r M ih =>
    cases k with
    | zero => simp [sumLen, row]
    | succ k =>
      have := ih (k := k) (by simpa using h)
      simp only [List.take_succ_cons, sumLen] at this ⊢
      rw [this]
      simp [row, Nat.add_assoc]
theorem sumLen_take_le (M : List (List Int)) (k : Nat) : sumLen (M.take k) ≤ sumLen M := by
  induction M generalizing k with
  | nil => simp [sumLen]
  | cons r M ih =>
    cases k with
    | zero => simp [sumLen]
    | succ k => simp only [List.take_succ_cons, sumLen]; have := ih k; omega
theorem sumLen_row_le {M : List (List Int)} {k : Nat} (h : k < M.length) : (row M k).length ≤ sumLen M := by
  have := sumLen_take h
  have := sumLen_take_le M (k + 1)
  omega

/-- what is left of a count -/
def leftOf (left : Int) (n : Nat) : Int := if left - n < 0 then -1 else left - n

set_option maxHeartbeats 400000 in
theorem szIntS_any {v : Value} {xs : List Int} {left : Int} {w0 w : World} [Ext w0 w] (hx : IsInts w0 v xs) (h0 : 0 ≤ left) (h1 : left ≤ 2000000) :
    Calls Tryd.prog 124 #[v, .int .i64 left] w fun y w' => y = .returned (.int .i64 (leftOf left xs.length)) ∧ w' = w := by
  obtain ⟨a, c, rfl, la⟩ := hx.form
  by_cases h : left - xs.length < 0
  · have hl := hid (show leftOf left xs.length = -1 by rw [leftOf, if_pos h])
    go_enter Tryd.func124, Tryd.ntmps124
    go_wp2
    go_ret
    exact ⟨ret_int hl.out.symm, rfl⟩
  · have hl := hid (show leftOf left xs.length = left - xs.length by rw [leftOf, if_neg h])
    go_enter Tryd.func124, Tryd.ntmps124
    go_wp2
    go_ret
    exact ⟨ret_int hl.out.symm, rfl⟩

set_option maxHeartbeats 400000 in
theorem szIntSS_any {v : Value} {M : List (List Int)} {left : Int} {w0 w : World} [Ext w0 w] (hx : IsRows w0 v M) (h0 : 0 ≤ left) (h1 : left ≤ 2000000) :
    Calls Tryd.prog 77 #[v, .int .i64 left] w fun y w' => y = .returned (.int .i64 (leftOf left (M.length + sumLen M))) ∧ w' = w := by
  obtain ⟨a, c, rfl, la⟩ := hx.form
  by_cases h : left - M.length < 0
  · have hl := hid (show leftOf left (M.length + sumLen M) = -1 by rw [leftOf, if_pos (by omega)])
    go_enter Tryd.func77, Tryd.ntmps77
    go_wp2
    go_ret
    exact ⟨ret_int hl.out.symm, rfl⟩
  · go_enter Tryd.func77, Tryd.ntmps77
    go_wp2
    go_loop [1, 5] (fun q i => ∃ j : Nat, ∃ r : Int, j ≤ M.length ∧ i = .int .i64 j ∧ q = .int .i64 r ∧ Hid (r = left - M.length - sumLen (M.take j)) ∧ 0 ≤ r ∧ r ≤ left) (fun _ i => M.length - (intOf i).toNat)
    case atStart => exact ⟨0, left - M.length, by omega, rfl, rfl, by simp [Hid, sumLen], by omega, by omega⟩
    case round =>
      obtain ⟨j, r, hj, rfl, rfl, hr, hr0, hr1⟩ := hrel
      by_cases hlt : j < M.length
      · obtain ⟨b, o, d, m, rfl, hc, hrow, hlen⟩ := hx.at (w' := w) hlt
        by_cases hs : r - (row M j).length < 0
        · have hl := hid (show leftOf r (row M j).length = -1 by rw [leftOf, if_pos hs])
          have hfin := hid (show leftOf left (M.length + sumLen M) = -1 by
            rw [leftOf, if_pos]
            have := sumLen_take hlt
            have := sumLen_take_le M (j + 1)
            have := hr.out
            omega)
          go_wp2_with (go_at_call 124; refine (szIntS_any hrow hr0 (by omega)).mono ?_; rw [hl.out]; rintro e w' ⟨rfl, rfl⟩)
          go_ret
          exact ⟨ret_int hfin.out.symm, rfl⟩
        · have hl := hid (show leftOf r (row M j).length = r - (row M j).length by rw [leftOf, if_neg hs])
          go_wp2_with (go_at_call 124; refine (szIntS_any hrow hr0 (by omega)).mono ?_; rw [hl.out]; rintro e w' ⟨rfl, rfl⟩)
          go_round
          case rel =>
            refine ⟨j + 1, r - (row M j).length, by omega, by go_num, rfl, ?_, by omega, by omega⟩
            have := sumLen_take hlt
            have := hr.out
            unfold Hid
            omega
          case measure => simp [intOf]; omega
      · have hfin := hid (show leftOf left (M.length + sumLen M) = r by
          have hjM : j = M.length := by omega
          have := hr.out
          rw [hjM, List.take_length] at this
          rw [leftOf, if_neg (by omega)]
          omega)
        go_wp2
        go_ret
        exact ⟨ret_int hfin.out.symm, rfl⟩

theorem toIntSS_step {e1 e2 : Nat} {g c n : Nat} {M : List (List Int)} {vs : List Value} {k : Nat} (h : k < M.length) (hv : vs.length = k) (u : Value) :
    (⟨e1, 1, .slice (some ⟨g, 0, none⟩) n c, n, (vs ++ List.replicate (M.length - k) (Value.slice none 0 0)).set k u⟩ :: (List.zipWith (intRowOf e2) vs (M.take k) ++ [intRowOf e2 u (row M k)]) : List Row)
      = ⟨e1, 1, .slice (some ⟨g, 0, none⟩) n c, n, (vs ++ [u]) ++ List.replicate (M.length - (k + 1)) (Value.slice none 0 0)⟩ :: List.zipWith (intRowOf e2) (vs ++ [u]) (M.take (k + 1)) := by
  have h1 : M.length - k = (M.length - (k + 1)) + 1 := by omega
  rw [h1, List.replicate_succ, List.set_append, if_neg (by omega), hv, take_succ_row h, List.zipWith_append (by simp; omega)]
  simp

set_option maxHeartbeats 800000 in
theorem toIntSS_any {v : Value} {M : List (List Int)} {w0 w : World} [Ext w0 w] (hx : IsRows w0 v M) :
    Calls Tryd.prog 80 #[v] w fun e w' => ∃ d m vs, e = .returned (.slice d M.length m) ∧ vs.length = M.length ∧ Own w' w.heap.size (rowsOf 41 3 (.slice d M.length m) vs M) ∧ Ext w w' := by
  obtain ⟨a, ca, rfl, la⟩ := hx.form
  go_enter Tryd.func80, Tryd.ntmps80
  go_wp2_with (at_make; refine wpList_makeOwn rfl _ _ _ rfl elemInts M.length rfl rfl (by omega) (by omega) rfl ?_; intro hown)
  go_loopw [4] (fun i wr => ∃ k : Nat, ∃ vs : List Value, k ≤ M.length ∧ i = .int .i64 k ∧ Hid (vs.length = k) ∧ Own wr w.heap.size (⟨41, 1, .slice (some ⟨w.heap.size, 0, none⟩) M.length M.length, M.length, vs ++ List.replicate (M.length - k) (.slice none 0 0)⟩ :: List.zipWith (intRowOf 3) vs (M.take k)) ∧ Ext w wr) (fun i _ => M.length - (intOf i).toNat)
  case atStart => exact ⟨0, [], by omega, rfl, rfl, by simpa using hown, inferInstance⟩
  case round =>
    obtain ⟨k, vs, hk, rfl, hvs, hown, hb⟩ := hrel
    by_cases hlt : k < M.length
    · have e0 : Ext w0 wr := Ext.trans ‹Ext w0 w› hb
      obtain ⟨b1, o1, d, m, rfl, hc1, hrow, _⟩ := hx.at (w' := wr) hlt
      have hsz : w.heap.size ≤ wr.heap.size := hb.size
      go_wp2_with (go_at_call 127; refine (toIntS_any (w0 := w0) hrow).mono ?_; rintro e w1 ⟨ud, um, rfl, hn, hb1⟩; have hj := hown.join hn hsz; have hj2 := hj.perm (S := _ :: (_ ++ [_])) (List.perm_append_comm (l₁ := _ :: _)); have hc := hj2.cellAt (w' := w1) hlt; have hf := hj2.frozenAt k; clear hj)
      go_roundw
      case rel =>
        have e1 : Ext w w1 := hb.trans hb1
        refine ⟨k + 1, vs ++ [.slice ud (row M k).length um], by omega, by go_num, by have := hvs.out; simp [Hid, this], ?_, Ext.set (Nat.le_refl _) _⟩
        have h := hj2.set k (.slice ud (row M k).length um)
        rw [toIntSS_step hlt hvs.out] at h
        exact h
      case measure => simp [intOf]; omega
    · go_wp2
      go_ret
      have : k = M.length := by omega
      subst this
      have hl := hvs.out
      refine ⟨_, _, vs, rfl, hl, ?_, inferInstance⟩
      rw [List.take_length, Nat.sub_self, List.replicate_zero, List.append_nil] at hown
      unfold rowsOf valRowOf
      rw [hl]
      exact hown

def eqR (xs ys : List (List Int)) : Bool := decide (xs = ys)
theorem eqR_iff {xs ys : List (List Int)} : eqR xs ys = true ↔ xs = ys := by simp [eqR]

/-- the marks of rows, from k on -/
def markR : List (List Int) → Int → List (List Int)
  | [], _ => []
  | r :: M, k => iota k r.length :: markR M (k + r.length)
theorem markR_length (M : List (List Int)) (k : Int) : (markR M k).length = M.length := by
  induction M generalizing k with
  | nil => rfl
  | cons r M ih => simp [markR, ih]
theorem markR_row {M : List (List Int)} {k : Int} {j : Nat} (h : j < M.length) : row (markR M k) j = iota (k + sumLen (M.take j)) (row M j).length := by
  induction M generalizing k j with
  | nil => simp at h
  | cons r M ih =>
    cases j with
    | zero => simp [markR, row, sumLen]
    | succ j =>
      have := ih (k := k + r.length) (j := j) (by simpa using h)
      simp only [markR, row, List.getD_cons_succ, List.take_succ_cons, sumLen] at this ⊢
      rw [this]
      congr 1
      omega
theorem markR_sumLen (M : List (List Int)) (k : Int) : sumLen (markR M k) = sumLen M := by
  induction M generalizing k with
  | nil => rfl
  | cons r M ih => simp [markR, sumLen, ih, iota_length]
theorem mark_set {M : List (List Int)} {k : Int} {j : Nat} (h : j < M.length) :
    ((markR M k).take j ++ M.drop j).set j (iota (k + sumLen (M.take j)) (row M j).length) = (markR M k).take (j + 1) ++ M.drop (j + 1) := by
  have h1 : M.drop j = M[j] :: M.drop (j + 1) := List.drop_eq_getElem_cons h
  have h2 : ((markR M k).take j).length = j := by simp [markR_length]; omega
  rw [h1, List.set_append, if_neg (by omega), h2, take_succ_row (by rw [markR_length]; exact h), markR_row h]
  simp only [Nat.sub_self, List.set_cons_zero, List.append_assoc, List.singleton_append]
theorem mark_get {M : List (List Int)} {k : Int} {j : Nat} (h : j < M.length) : ((markR M k).take j ++ M.drop j)[j]? = some (row M j) := by
  have h2 : ((markR M k).take j).length = j := by simp [markR_length]; omega
  rw [List.getElem?_append_right (by omega), h2]
  simp [row, h]

/-- the j-th of rows that are owned -/
theorem Own.rowAt {w : World} {B e1 e2 : Nat} {v : Value} {vs : List Value} {M : List (List Int)} {R : List Row} (_h : Own w B (rowsOf e1 e2 v vs M ++ R)) {j : Nat} {r : List Int} {u : Value} (hr : M[j]? = some r) (hu : vs[j]? = some u) :
    (rowsOf e1 e2 v vs M ++ R)[j + 1]? = some (intRowOf e2 u r) := by
  have h1 : j < M.length := (List.getElem?_eq_some_iff.1 hr).1
  have h2 : j < vs.length := (List.getElem?_eq_some_iff.1 hu).1
  simp only [rowsOf, List.cons_append, List.getElem?_cons_succ]
  rw [List.getElem?_append_left (by simp; omega), List.getElem?_zipWith, hu, hr]
theorem rowsOf_set {e1 e2 : Nat} {v : Value} {vs : List Value} {M : List (List Int)} {R : List Row} {j : Nat} {r : List Int} {u : Value} (hj : j < M.length) (hu : vs[j]? = some u) :
    (rowsOf e1 e2 v vs M ++ R).set (j + 1) (intRowOf e2 u r) = rowsOf e1 e2 v vs (M.set j r) ++ R := by
  have h2 : j < vs.length := (List.getElem?_eq_some_iff.1 hu).1
  simp only [rowsOf, List.cons_append, List.set_cons_succ]
  rw [List.set_append, if_pos (by simp; omega), zipWith_set _ _ _ _ _ _ hu]

end Go.Proofs.YtdohjmbhgjfcaaaDoor
