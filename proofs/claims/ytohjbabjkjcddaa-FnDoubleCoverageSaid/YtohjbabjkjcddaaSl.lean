/- The library's functions on slices of ints: Clone, Min, Repeat; the reference's least. -/
import Derived.Test.YtohjbabjkjcddaaReads
import Derived.Test.YtohjbabjkjcddaaMin
import Derived.Laws.CopyOwn
namespace Go.Proofs.Ytohjbabjkjcddaa
open Go.RowKit

theorem nilRow (w : World) (B e : Nat) : Own w B [intRowOf e (.slice none ([] : List Int).length 0) []] := (Own.nil w B).cons_nil _ _

theorem eqlNilInts (c : Nat) (w : World) : (binOp .eql 24 (.slice none 0 c) (.slice none 0 0)).run Try.prog w = .ok (.bool true) w := by kernel_rfl
theorem eqlSomeInts (ad : Addr) (n c : Nat) (w : World) : (binOp .eql 24 (.slice (some ad) n c) (.slice none 0 0)).run Try.prog w = .ok (.bool false) w := by kernel_rfl

set_option maxHeartbeats 400000 in
set_option maxRecDepth 100000 in
theorem cloneInts_any {v : Value} {xs : List Int} {w0 w : World} [Ext w0 w] (hx : IsInts w0 v xs) :
    Calls Try.prog 51 #[v] w fun e w' => ∃ d m, e = .returned (.slice d xs.length m) ∧ Own w' w.heap.size [intRowOf 3 (.slice d xs.length m) xs] ∧ Ext w w' := by
  have hx' := hx
  obtain ⟨a, c, rfl, la⟩ := hx.form
  cases a with
  | none =>
    have hz : xs = [] := by
      cases xs with
      | nil => rfl
      | cons x xs =>
        obtain ⟨b, o, h, _⟩ := hx.at (w' := w) (k := 0) (by simp)
        cases h
    subst hz
    have hnil := eqlNilInts c
    go_enter Try.func51, Try.ntmps51
    go_wp2
    go_ret
    exact ⟨none, 0, rfl, nilRow _ _ _, inferInstance⟩
  | some ad =>
    have own0 : Own (w.alloc (.cells #[] 3)) w.heap.size [⟨3, 1, .slice (some ⟨w.heap.size, 0, none⟩) 0 0, 0, []⟩] := Own.litInts (xs := []) (Nat.le_refl _) rfl rfl (by simp) rfl
    have hB : w.heap.size ≤ (w.alloc (.cells #[] 3)).heap.size := by simp
    have e0 : Ext w0 (w.alloc (.cells #[] 3)) := Ext.trans ‹Ext w0 w› inferInstance
    have hnil := eqlSomeInts ad xs.length c
    go_enter Try.func51, Try.ntmps51
    go_wp2_with (at_builtin; refine wpList_appendInts rfl _ _ _ rfl elemInt rfl own0 hB rfl (hx'.ext (w' := w.alloc (.cells #[] 3))) (by omega) ?_; intro v1 w1 ho hb1)
    go_ret
    rw [Nat.zero_add, List.nil_append] at ho
    obtain ⟨d, m, rfl⟩ := Own.formInts (e := 3) (xs := xs) ho
    exact ⟨d, m, rfl, ho, ⟨((Below.refl _ w).alloc (Nat.le_refl _) _).trans hb1⟩⟩

/-- the least of the first numbers -/
def leastTo (w : List Int) (k : Nat) : Int := ((w.drop 1).take k).foldl (minB id) (nth w 0)
theorem leastTo_succ {w : List Int} {k : Nat} (h : k + 1 < w.length) : leastTo w (k + 1) = minB id (leastTo w k) (nth w (k + 1)) := by
  rw [leastTo, foldTake _ _ (by rw [List.length_drop]; omega)]
  have : nth (w.drop 1) k = nth w (k + 1) := by simp [nth]
  rw [this]; rfl
theorem leastTo_all {w : List Int} {k : Nat} (h : k + 1 = w.length) : leastTo w k = leastL w := by
  rw [leastTo, List.take_of_length_le (by rw [List.length_drop]; omega)]; rfl
theorem leastTo_mem {w : List Int} (h : 0 < w.length) : ∀ k, k < w.length → leastTo w k ∈ w
  | 0, _ => nth_mem h
  | k + 1, hk => by
    rw [leastTo_succ hk]
    unfold minB
    split
    · exact nth_mem hk
    · exact leastTo_mem h k (by omega)

set_option maxHeartbeats 400000 in
theorem sMin_any {v : Value} {xs : List Int} {w0 w : World} [Ext w0 w] (hx : IsInts w0 v xs) (h0 : 0 < xs.length) :
    Calls Try.prog 108 #[v] w fun e w' => e = .returned (.int .i64 (leastL xs)) ∧ w = w' := by
  obtain ⟨a, c, rfl, la⟩ := hx.form
  obtain ⟨b, o, rfl, hc0⟩ := hx.at (w' := w) h0
  have h1 : decide ((xs.length : Int) < 1) = false := by simp; omega
  rw [Nat.add_zero] at hc0
  go_enter Try.func108, Try.ntmps108
  go_wp2
  go_loop [3, 4] (fun q i => ∃ k : Nat, k < xs.length ∧ i = .int .i64 ((k : Int) + 1) ∧ q = .int .i64 (leastTo xs k)) (fun _ i => xs.length - (intOf i).toNat)
  case atStart => exact ⟨0, by omega, rfl, rfl⟩
  case round =>
    obtain ⟨k, hk, rfl, rfl⟩ := hrel
    by_cases hlt : k + 1 < xs.length
    · obtain ⟨b', o', hq, hc⟩ := hx.at (w' := w) hlt
      cases hq
      have hs := hid (leastTo_succ hlt)
      have hlt' : (k : Int) + 1 < (xs.length : Int) := by omega
      generalize leastTo xs k = lt at *
      by_cases hg : nth xs (k + 1) < lt
      · have hm := hid (show minB id lt (nth xs (k + 1)) = nth xs (k + 1) from if_pos hg)
        go_wp2
        go_round
        case rel => exact ⟨k + 1, hlt, by go_num, by rw [hs.out, hm.out]⟩
        case measure => simp [intOf]; omega
      · have hm := hid (show minB id lt (nth xs (k + 1)) = lt from if_neg hg)
        go_wp2
        go_round
        case rel => exact ⟨k + 1, hlt, by go_num, by rw [hs.out, hm.out]⟩
        case measure => simp [intOf]; omega
    · have hlt' : ¬ (k : Int) + 1 < (xs.length : Int) := by omega
      go_wp2
      go_ret
      exact ⟨ret_int (leastTo_all (by omega)), rfl⟩

theorem l1Least_any (a b : Int) (w : World) :
    Calls Try.prog 97 #[.int .i64 a, .int .i64 b] w fun e w' => e = .returned (.int .i64 (minB id a b)) ∧ w = w' := by
  by_cases h : a < b
  · have hr := hid (show minB id a b = a from if_neg (by show ¬ b < a; omega))
    have h' : decide (a < b) = true := by simpa using h
    go_enter Try.func97, Try.ntmps97
    go_wp2
    go_ret
    exact ⟨ret_int hr.out.symm, rfl⟩
  · have hr := hid (show minB id a b = b by
      unfold minB
      by_cases h2 : b < a
      · exact if_pos h2
      · refine (if_neg h2).trans ?_
        omega)
    have h' : decide (a < b) = false := by simpa using h
    go_enter Try.func97, Try.ntmps97
    go_wp2
    go_ret
    exact ⟨ret_int hr.out.symm, rfl⟩

end Go.Proofs.Ytohjbabjkjcddaa
