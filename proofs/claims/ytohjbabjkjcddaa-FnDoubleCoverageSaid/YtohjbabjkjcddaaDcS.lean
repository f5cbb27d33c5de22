/- Double coverage walked: one step of the reference. -/
import Derived.Test.YtohjbabjkjcddaaDcV
import Derived.Test.YtohjbabjkjcddaaSwp
import Derived.Deep.QuietTactic
import Derived.BigQuiet
namespace Go.Proofs.Ytohjbabjkjcddaa
open Go.RowKit

theorem apL_set2 : ∀ {a : List Int} {k : Nat} (x y : Int), k + 1 < a.length → apL a ((a.set k x).set (k + 1) y) = dst (nth a k) x + dst (nth a (k + 1)) y
  | [], _, _, _, h => absurd h (Nat.not_lt_zero _)
  | [_], k, _, _, h => absurd h (by simp)
  | u :: v :: a, 0, x, y, _ => by
    show dst u x + (dst v y + apL a a) = dst u x + dst v y
    rw [apL_self]; omega
  | u :: v :: a, k + 1, x, y, h => by
    have ih := apL_set2 (a := v :: a) (k := k) x y (by simpa using h)
    show dst u u + apL (v :: a) (((v :: a).set k x).set (k + 1) y) = dst (nth (v :: a) k) x + dst (nth (v :: a) (k + 1)) y
    rw [ih, dst_self]; omega
theorem posL_lt : ∀ {a : List Int} {r : Int} {j : Nat}, j < posL a r → nth a j < r
  | [], r, j, h => absurd h (by simp [posL])
  | x :: a, r, j, h => by
    unfold posL at h
    split at h
    · next hx =>
      cases j with
      | zero => exact hx
      | succ j => exact posL_lt (a := a) (j := j) (by omega)
    · exact absurd h (Nat.not_lt_zero _)
theorem posL_ge : ∀ {a : List Int} {r : Int} {j : Nat}, Asc a → posL a r ≤ j → j < a.length → r ≤ nth a j
  | [], _, _, _, _, h => absurd h (Nat.not_lt_zero _)
  | x :: a, r, j, hs, h, hj => by
    have hs' := List.pairwise_cons.1 hs
    unfold posL at h
    split at h
    · next hx =>
      cases j with
      | zero => omega
      | succ j => exact posL_ge (a := a) (j := j) hs'.2 (by omega) (by simpa using hj)
    · next hx =>
      cases j with
      | zero => show r ≤ x; omega
      | succ j =>
        have hm : nth a j ∈ a := nth_mem (by simpa using hj)
        have := hs'.1 _ hm
        show r ≤ nth a j
        omega
set_option maxHeartbeats 800000 in
theorem l6Places_any {v : Value} {l : List Int} {w0 w : World} [Ext w0 w] (hl : IsInts w0 v l) :
    Calls Try.prog 47 #[v] w fun e w' => e = .returned (.bool (belowB 100 l)) ∧ Ext w w' := by
  have hl' := hl
  obtain ⟨a, c, rfl, la⟩ := hl.form
  go_enter Try.func47, Try.ntmps47
  go_wp2_with fail
  go_loopw [3] (fun i wr => ∃ k : Nat, k ≤ l.length ∧ i = .int .i64 k ∧ Hid (∀ j, j < k → inB (nth l j) 0 99 = true) ∧ Ext w wr) (fun i _ => l.length - (intOf i).toNat)
  case atStart => exact ⟨0, by omega, rfl, hid fun j hj => absurd hj (Nat.not_lt_zero _), Ext.refl _⟩
  case round =>
    obtain ⟨k, hk, rfl, hq, he⟩ := hrel
    have e0r : Ext w0 wr := Ext.trans ‹Ext w0 w› he
    by_cases hlt : k < l.length
    · have hlt' : (k : Int) < (l.length : Int) := by omega
      obtain ⟨b, o, hd, hcc⟩ := hl'.at (w' := wr) hlt
      cases hd
      cases hin : inB (nth l k) 0 99 with
      | true =>
        have hin' := hid hin
        go_wp2_with fail
        refine (l1In_any _ _ _ _).mono ?_
        rw [hin]
        rintro e w1 ⟨rfl, rfl⟩
        go_wp2_with fail
        go_roundw
        case rel =>
          refine ⟨k + 1, by omega, by go_num, hid fun j hj => ?_, he⟩
          by_cases h : j < k
          · exact hq.out j h
          · rw [show j = k by omega]; exact hin'.out
        case measure => simp [intOf]; omega
      | false =>
        have hr := hid (show belowB 100 l = false from belowB_not hlt hin)
        go_wp2_with fail
        refine (l1In_any _ _ _ _).mono ?_
        rw [hin]
        rintro e w1 ⟨rfl, rfl⟩
        go_wp2_with fail
        go_ret
        exact ⟨ret_bool hr.out.symm, he⟩
    · have hr := hid (show belowB 100 l = true from belowB_of fun j hj => hq.out j (by omega))
      have hgt : ¬ (k : Int) < (l.length : Int) := by omega
      go_wp2_with fail
      go_ret
      exact ⟨ret_bool hr.out.symm, he⟩
set_option maxHeartbeats 800000 in
theorem l6Row_any {v : Value} {l : List Int} {w0 w : World} [Ext w0 w] (hl : IsInts w0 v l) :
    Calls Try.prog 46 #[v] w fun e w' => e = .returned (.bool (rowB l)) ∧ Ext w w' := by
  have hl' := hl
  obtain ⟨a, c, rfl, la⟩ := hl.form
  cases h1 : inB (l.length : Int) 1 3 with
  | false =>
    have hr := hid (show rowB l = false by unfold rowB lenB; rw [h1]; rfl)
    go_enter Try.func46, Try.ntmps46
    go_wp2_with fail
    refine (l1In_any _ _ _ _).mono ?_
    rw [h1]
    rintro e w1 ⟨rfl, rfl⟩
    go_wp2_with fail
    go_ret
    exact ⟨ret_bool hr.out.symm, Ext.refl _⟩
  | true =>
    cases h2 : belowB 100 l with
    | false =>
      have hr := hid (show rowB l = false by unfold rowB lenB; rw [h1, h2]; rfl)
      go_enter Try.func46, Try.ntmps46
      go_wp2_with fail
      refine (l1In_any _ _ _ _).mono ?_
      rw [h1]
      rintro e w1 ⟨rfl, rfl⟩
      go_wp2_with fail
      refine (l6Places_any (w0 := w0) hl').mono ?_
      rw [h2]
      rintro e w1 ⟨rfl, e1⟩
      go_wp2_with fail
      go_ret
      exact ⟨ret_bool hr.out.symm, e1⟩
    | true =>
      have hr := hid (show rowB l = ascB l by unfold rowB lenB; rw [h1, h2]; rfl)
      go_enter Try.func46, Try.ntmps46
      go_wp2_with fail
      refine (l1In_any _ _ _ _).mono ?_
      rw [h1]
      rintro e w1 ⟨rfl, rfl⟩
      go_wp2_with fail
      refine (l6Places_any (w0 := w0) hl').mono ?_
      rw [h2]
      rintro e w1 ⟨rfl, e1⟩
      have e01 : Ext w0 w1 := Ext.trans ‹Ext w0 w› e1
      go_wp2_with fail
      refine (l6Ascending_any (w0 := w0) hl').mono ?_
      rintro e w2 ⟨rfl, e2⟩
      generalize ascB l = z at *
      go_wp2_with fail
      go_ret
      exact ⟨ret_bool hr.out.symm, Ext.trans e1 e2⟩
end Go.Proofs.Ytohjbabjkjcddaa
