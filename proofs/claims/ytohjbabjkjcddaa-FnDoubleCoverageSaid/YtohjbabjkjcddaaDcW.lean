/- Double coverage walked: rows, their distances, one step (the program). -/
import Derived.Test.YtohjbabjkjcddaaDcP
import Derived.Test.YtohjbabjkjcddaaSrvB
import Derived.Test.YtohjbabjkjcddaaFrac
import Derived.Test.YtohjbabjkjcddaaTakes
namespace Go.Proofs.Ytohjbabjkjcddaa
open Go.RowKit

theorem areIn1_any {a : Int} {B C : Nat} {w : World} (hn : w.cell? ⟨B, 0, none⟩ = some (.int .i64 0)) (hm : w.cell? ⟨C, 0, none⟩ = some (.int .i64 99)) :
    Calls Try.prog 127 #[.int .i64 a, .pointer (some ⟨B, 0, none⟩), .pointer (some ⟨C, 0, none⟩)] w fun e w' => e = .returned (.bool (!inB a 0 (100 - 1))) ∧ w = w' := by
  go_enter Try.func127, Try.ntmps127
  go_wp2_with (go_at_call 70; refine (within_any _ _ _ _).mono ?_; rintro e w' ⟨rfl, rfl⟩)
  go_ret
  exact ⟨rfl, rfl⟩
theorem areIn1_call (xa : Array Value) (W : World) : (callFunc 127 xa).run Try.prog W = .ok (.enter 127 xa) W := by kernel_rfl
theorem areIn1_all {l : List Int} {B C : Nat} {w : World} (hn : w.cell? ⟨B, 0, none⟩ = some (.int .i64 0)) (hm : w.cell? ⟨C, 0, none⟩ = some (.int .i64 99)) :
    ∀ (W : World), Ext w W → ∀ k, k < l.length → Calls Try.prog 127 (#[.int .i64 (nth l k)] ++ #[.pointer (some ⟨B, 0, none⟩), .pointer (some ⟨C, 0, none⟩)]) W fun e w' => e = .returned (.bool (!inB (nth l k) 0 (100 - 1))) ∧ Ext W w' := by
  intro W hW k hk
  refine (areIn1_any (hW.cell hn) (hW.cell hm)).mono ?_
  rintro e w' ⟨rfl, rfl⟩
  exact ⟨rfl, Ext.refl _⟩
def lenB (n : Nat) : Bool := inB n 1 3
set_option maxHeartbeats 800000 in
theorem areIn_any {v : Value} {l : List Int} {w0 w : World} [Ext w0 w] (hl : IsInts w0 v l) :
    Calls Try.prog 90 #[v, .int .i64 3, .int .i64 0, .int .i64 99] w fun e w' => e = .returned (.bool (lenB l.length && belowB 100 l)) ∧ Ext w w' := by
  have hl' := hl
  obtain ⟨a, c, rfl, la⟩ := hl.form
  have hR := hid (below_any 100 l)
  obtain ⟨W1, hW⟩ : ∃ W, W = (w.alloc (.cells #[.int .i64 0] 3)).alloc (.cells #[.int .i64 99] 3) := ⟨_, rfl⟩
  have e1 : Ext w W1 := by rw [hW]; infer_instance
  have x0 : W1.cell? ⟨w.heap.size, 0, none⟩ = some (.int .i64 0) := by rw [hW]; go_simp
  have x1 : W1.cell? ⟨w.heap.size + 1, 0, none⟩ = some (.int .i64 99) := by rw [hW]; go_simp
  have e0 : Ext w0 W1 := Ext.trans ‹Ext w0 w› e1
  cases hb : lenB l.length with
  | false =>
    have hb' := hid (show inB (l.length : Int) 1 3 = false from hb)
    go_enter Try.func90, Try.ntmps90
    go_upto_region 1 with fail
    rw [← hW]
    replace hW := hid hW
    go_wp2_with fail
    refine (within_any _ _ _ _).mono ?_
    rw [hb'.out]
    rintro e w2 ⟨rfl, rfl⟩
    go_wp2_with fail
    go_ret
    exact ⟨rfl, e1⟩
  | true =>
    have hb' := hid (show inB (l.length : Int) 1 3 = true from hb)
    go_enter Try.func90, Try.ntmps90
    go_upto_region 1 with fail
    rw [← hW]
    replace hW := hid hW
    go_wp2_with fail
    refine (within_any _ _ _ _).mono ?_
    rw [hb'.out]
    rintro e w2 ⟨rfl, rfl⟩
    go_wp2_with fail
    refine (containsFuncInts_any (w0 := w0) hl' _ _ (fun a => !inB a 0 (100 - 1)) areIn1_call (areIn1_all x0 x1)).mono ?_
    rintro e w2 ⟨rfl, h2⟩
    generalize hz : (l.any fun a => !inB a 0 (100 - 1)) = z at *
    replace hz := hid hz
    go_wp2_with fail
    go_ret
    exact ⟨ret_bool (by rw [Bool.true_and]; exact hR.out), Ext.trans e1 h2⟩
/-- a list is a row -/
def rowB (l : List Int) : Bool := (lenB l.length && belowB 100 l) && ascB l
set_option maxHeartbeats 800000 in
theorem isRow_any {v : Value} {l : List Int} {w0 w : World} [Ext w0 w] (hl : IsInts w0 v l) :
    Calls Try.prog 42 #[v] w fun e w' => e = .returned (.bool (rowB l)) ∧ Ext w w' := by
  have hl' := hl
  obtain ⟨a, c, rfl, la⟩ := hl.form
  cases hb : lenB l.length && belowB 100 l with
  | false =>
    have hr := hid (show rowB l = false by unfold rowB; rw [hb]; rfl)
    go_enter Try.func42, Try.ntmps42
    go_wp2_with fail
    refine (areIn_any (w0 := w0) hl').mono ?_
    rw [hb]
    rintro e w1 ⟨rfl, e1⟩
    go_wp2_with fail
    go_ret
    exact ⟨ret_bool hr.out.symm, e1⟩
  | true =>
    have hr := hid (show rowB l = ascB l by unfold rowB; rw [hb]; rfl)
    go_enter Try.func42, Try.ntmps42
    go_wp2_with fail
    refine (areIn_any (w0 := w0) hl').mono ?_
    rw [hb]
    rintro e w1 ⟨rfl, e1⟩
    have e01 : Ext w0 w1 := Ext.trans ‹Ext w0 w› e1
    go_wp2_with fail
    refine (isSorted_any (w0 := w0) hl').mono ?_
    rintro e w2 ⟨rfl, e2⟩
    generalize ascB l = z at *
    go_wp2_with fail
    go_ret
    exact ⟨ret_bool hr.out.symm, Ext.trans e1 e2⟩
/-- numbers are places, and not too many -/
def plcB (l : List Int) (many : Int) : Bool := decide ((l.length : Int) ≤ many) && belowB 100 l
set_option maxHeartbeats 800000 in
theorem arePlaces_any {v : Value} {l : List Int} {many : Int} {w0 w : World} [Ext w0 w] (hl : IsInts w0 v l) :
    Calls Try.prog 43 #[v, .int .i64 many] w fun e w' => e = .returned (.bool (plcB l many)) ∧ Ext w w' := by
  have hl' := hl
  obtain ⟨a, c, rfl, la⟩ := hl.form
  by_cases hb : (l.length : Int) ≤ many
  · have hr := hid (show plcB l many = belowB 100 l by unfold plcB; rw [decide_eq_true hb]; rfl)
    go_enter Try.func43, Try.ntmps43
    go_wp2_with fail
    refine (areBelow_any (w0 := w0) hl' (by omega) (by omega)).mono ?_
    rintro e w1 ⟨rfl, e1⟩
    generalize belowB 100 l = z at *
    go_wp2_with fail
    go_ret
    exact ⟨ret_bool hr.out.symm, e1⟩
  · have hr := hid (show plcB l many = false by unfold plcB; rw [decide_eq_false hb]; rfl)
    go_enter Try.func43, Try.ntmps43
    go_wp2_with fail
    go_ret
    exact ⟨ret_bool hr.out.symm, Ext.refl _⟩
/-- the distance of the first k places -/
def apTo (a b : List Int) : Nat → Int
  | 0 => 0
  | k + 1 => apTo a b k + dst (nth a k) (nth b k)
theorem apTo_cons (x y : Int) (a b : List Int) : ∀ k, apTo (x :: a) (y :: b) (k + 1) = dst x y + apTo a b k
  | 0 => by simp [apTo, nth]
  | k + 1 => by
    have ih := apTo_cons x y a b k
    show apTo (x :: a) (y :: b) (k + 1) + dst (nth a k) (nth b k) = dst x y + (apTo a b k + dst (nth a k) (nth b k))
    omega
theorem apTo_all : ∀ {a b : List Int}, a.length = b.length → apTo a b a.length = apL a b
  | [], _, _ => rfl
  | _ :: _, [], h => by simp at h
  | x :: a, y :: b, h => by
    show apTo (x :: a) (y :: b) (a.length + 1) = dst x y + apL a b
    rw [apTo_cons, apTo_all (by simpa using h)]
theorem apTo_nn (a b : List Int) : ∀ k, 0 ≤ apTo a b k
  | 0 => Int.le_refl _
  | k + 1 => by
    have := apTo_nn a b k
    have := dst_nn (nth a k) (nth b k)
    show 0 ≤ apTo a b k + dst (nth a k) (nth b k)
    omega
theorem apTo_le {a b : List Int} (ha : ∀ x ∈ a, -1000 ≤ x ∧ x ≤ 1000) (hb : ∀ x ∈ b, -1000 ≤ x ∧ x ≤ 1000) : ∀ k, k ≤ a.length → k ≤ b.length → apTo a b k ≤ 2000 * k
  | 0, _, _ => Int.le_refl _
  | k + 1, h1, h2 => by
    have ih := apTo_le ha hb k (by omega) (by omega)
    have q1 := ha _ (nth_mem (show k < a.length by omega))
    have q2 := hb _ (nth_mem (show k < b.length by omega))
    have : dst (nth a k) (nth b k) ≤ 2000 := by unfold dst; omega
    show apTo a b k + dst (nth a k) (nth b k) ≤ _
    omega
set_option maxHeartbeats 800000 in
theorem rowDistance_any {v u : Value} {a b : List Int} {w0 w : World} [Ext w0 w] (hv : IsInts w0 v a) (hu : IsInts w0 u b) (hl : a.length = b.length) (ha : ∀ x ∈ a, -1000 ≤ x ∧ x ≤ 1000) (hb : ∀ x ∈ b, -1000 ≤ x ∧ x ≤ 1000) (h3 : a.length ≤ 1000) :
    Calls Try.prog 50 #[v, u] w fun e w' => e = .returned (.int .i64 (apL a b)) ∧ Ext w w' := by
  have hv' := hv
  have hu' := hu
  obtain ⟨da, ca, rfl, la⟩ := hv.form
  obtain ⟨db, cb, rfl, lb⟩ := hu.form
  have hle : ∀ k, k ≤ a.length → k ≤ b.length := fun k h => hl ▸ h
  replace hl := hid hl
  go_enter Try.func50, Try.ntmps50
  go_wp2_with fail
  go_loopw [5, 6, 7, 10] (fun s _ _ i wr => ∃ k : Nat, k ≤ a.length ∧ i = .int .i64 k ∧ s = .int .i64 (apTo a b k) ∧ Ext w wr) (fun _ _ _ i _ => a.length - (intOf i).toNat)
  case atStart => exact ⟨0, by omega, rfl, rfl, Ext.refl _⟩
  case round =>
    obtain ⟨k, hk, rfl, rfl, he⟩ := hrel
    have n0 := apTo_nn a b k
    have n1 := apTo_le ha hb k (by omega) (hle k hk)
    have e0r : Ext w0 wr := Ext.trans ‹Ext w0 w› he
    by_cases hlt : k < a.length
    · have hlt' : (k : Int) < (a.length : Int) := by omega
      have hltb : k < b.length := hle (k + 1) hlt
      obtain ⟨ba, oa, hda, hca⟩ := hv'.at (w' := wr) hlt
      cases hda
      obtain ⟨bb, ob, hdb, hcb⟩ := hu'.at (w' := wr) hltb
      cases hdb
      have q1 := ha _ (nth_mem hlt)
      have q2 := hb _ (nth_mem hltb)
      have hn := hid (show apTo a b (k + 1) = apTo a b k + (((nth a k - nth b k).natAbs : Nat) : Int) from rfl)
      have hs := fun (u : World) => size_any (n := nth a k - nth b k) (by omega) (by omega) u
      generalize apTo a b k = Z at *
      generalize nth a k = x at *
      generalize nth b k = y at *
      replace hs := hid hs
      go_wp2_with fail
      refine (hs.out wr).mono ?_
      rintro e w2 ⟨rfl, e2⟩
      go_wp2_with fail
      go_roundw
      case rel => exact ⟨k + 1, by omega, by simp, by rw [hn.out], Ext.trans he e2⟩
      case measure => simp [intOf]; omega
    · have hk2 : k = a.length := by omega
      have hgt : ¬ (k : Int) < (a.length : Int) := by omega
      have hr := hid (show apTo a b k = apL a b by rw [hk2, apTo_all hl.out])
      replace hk2 := hid hk2
      go_wp2_with fail
      go_ret
      exact ⟨ret_int hr.out, he⟩
theorem posL_count : ∀ {a : List Int} {r : Int}, Asc a → a.countP (fun x => decide (x < r)) = posL a r
  | [], _, _ => rfl
  | x :: a, r, h => by
    have h' := List.pairwise_cons.1 h
    rw [List.countP_cons, posL]
    by_cases hx : x < r
    · rw [if_pos (by simpa using hx), if_pos hx, posL_count h'.2]
    · rw [if_neg (by simpa using hx), if_neg hx]
      have : a.countP (fun y => decide (y < r)) = 0 := by
        rw [List.countP_eq_zero]
        intro y hy
        have := h'.1 y hy
        simp; omega
      omega
theorem posL_le : ∀ (a : List Int) (r : Int), posL a r ≤ a.length
  | [], _ => Nat.le_refl _
  | x :: a, r => by
    have := posL_le a r
    unfold posL
    split
    · simp; omega
    · simp
theorem bin_any {v : Value} {a : List Int} {r : Int} {w : World} (hv : IsInts w v a) (h0 : 0 < a.length) (hs : Asc a) (hl : a.length ≤ 1000) :
    Calls Try.prog 96 #[v, .int .i64 r] w fun e w' => e = .returned (.tuple #[.int .i64 (posL a r : Nat), .bool (a.contains r)]) ∧ Ext w w' := by
  obtain ⟨d, c, rfl, la⟩ := hv.form
  obtain ⟨b, o, rfl, _⟩ := hv.at (w' := w) h0
  have h := Try.slices_BinarySearch_int b o a.length c a r w (Nat.le_refl _) (by omega) (fun j hj => by
    obtain ⟨b', o', e1, e2⟩ := hv.at (w' := w) hj
    cases e1
    exact e2) (by rw [List.take_length]; exact hs)
  rw [List.take_length, posL_count hs] at h
  refine h.mono ?_
  rintro e w' ⟨rfl, q, rfl⟩
  exact ⟨rfl, inferInstance⟩
end Go.Proofs.Ytohjbabjkjcddaa
