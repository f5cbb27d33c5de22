/- Several texts in one: Sched SchedB Run Min Sl RunW AlgS WorkP Arg OffsP Next Rep NextI WorkW OffsW. -/
import Derived.Test.YtmgcfnciejfpbaaGreatRGrB
import Derived.Deep.Cut
import Derived.Deep.RegionWith
import Derived.Deep.DeepCutAuto
import Derived.Test.YtmgcfnciejfpbaaGreatRGrA
import Derived.Laws.CopyOwn
import Derived.IntWalk
import Derived.Deep.RegionLaw
import Derived.Deep.RegionHeld3
import Derived.StillTailTactics
namespace Go.Proofs.YtmgcfnciejfpbaaGreat
open Go.RowKit
def okTo (M S : List (List Int)) (reqs states : List Int) (k : Nat) : Prop := ∀ i, i < k → stOk M S (nth reqs i).toNat (nth states i) = true
instance (M S : List (List Int)) (reqs states : List Int) (k : Nat) : Decidable (okTo M S reqs states k) := by unfold okTo; infer_instance
end Go.Proofs.YtmgcfnciejfpbaaGreat
namespace Go.Proofs.YtmgcfnciejfpbaaGreat
open Go.RowKit
end Go.Proofs.YtmgcfnciejfpbaaGreat
namespace Go.Proofs.YtmgcfnciejfpbaaGreat
open Go.RowKit
end Go.Proofs.YtmgcfnciejfpbaaGreat
namespace Go.Proofs.YtmgcfnciejfpbaaGreat
open Go.RowKit
def minB (f : Int → Int) (a s : Int) : Int := if f s < a then f s else a
/-- v is the least of f on l -/
def IsMin (v : Int) (l : List Int) (f : Int → Int) : Prop := (∃ s ∈ l, v = f s) ∧ ∀ s ∈ l, v ≤ f s
theorem foldB_le {f : Int → Int} : ∀ (l : List Int) (b : Int), l.foldl (minB f) b ≤ b ∧ (∀ s ∈ l, l.foldl (minB f) b ≤ f s) ∧ (l.foldl (minB f) b = b ∨ ∃ s ∈ l, l.foldl (minB f) b = f s)
  | [], b => ⟨by simp, by simp, by simp⟩
  | s :: l, b => by
    obtain ⟨h1, h2, h3⟩ := foldB_le (f := f) l (minB f b s)
    have e : minB f b s ≤ b ∧ minB f b s ≤ f s ∧ (minB f b s = b ∨ minB f b s = f s) := by
      unfold minB
      split <;> omega
    rw [List.foldl_cons]
    generalize minB f b s = m at *
    refine ⟨by omega, fun t ht => ?_, ?_⟩
    · rcases List.mem_cons.1 ht with rfl | ht
      · omega
      · exact h2 t ht
    · rcases h3 with h3 | ⟨t, ht, h3⟩
      · rcases e.2.2 with e3 | e3
        · exact .inl (by omega)
        · exact .inr ⟨s, by simp, by omega⟩
      · exact .inr ⟨t, by simp [ht], h3⟩
/-- the least of some numbers -/
def leastL (w : List Int) : Int := (w.drop 1).foldl (minB id) (nth w 0)
theorem leastL_min {w : List Int} (h : w ≠ []) : IsMin (leastL w) w id := by
  cases w with
  | nil => exact absurd rfl h
  | cons x l =>
    obtain ⟨h1, h2, h3⟩ := foldB_le (f := id) l x
    refine ⟨?_, fun s hs => ?_⟩
    · rcases h3 with h3 | ⟨t, ht, h3⟩
      · exact ⟨x, by simp, h3⟩
      · exact ⟨t, by simp [ht], h3⟩
    · rcases List.mem_cons.1 hs with rfl | hs
      · exact h1
      · exact h2 s hs
theorem foldTake {β : Type} (f : β → Int → β) (a : β) {l : List Int} {j : Nat} (h : j < l.length) : (l.take (j + 1)).foldl f a = f ((l.take j).foldl f a) (nth l j) := by
  rw [take_succ_nth h, List.foldl_append]; rfl
end Go.Proofs.YtmgcfnciejfpbaaGreat
namespace Go.Proofs.YtmgcfnciejfpbaaGreat
open Go.RowKit

theorem nilRow (w : World) (B e : Nat) : Own w B [intRowOf e (.slice none ([] : List Int).length 0) []] := (Own.nil w B).cons_nil _ _
theorem eqlNilInts (c : Nat) (w : World) : (binOp .eql 27 (.slice none 0 c) (.slice none 0 0)).run Tryz.prog w = .ok (.bool true) w := by kernel_rfl
theorem eqlSomeInts (ad : Addr) (n c : Nat) (w : World) : (binOp .eql 27 (.slice (some ad) n c) (.slice none 0 0)).run Tryz.prog w = .ok (.bool false) w := by kernel_rfl
set_option maxHeartbeats 400000 in
set_option maxRecDepth 100000 in
theorem cloneInts_any {v : Value} {xs : List Int} {w0 w : World} [Ext w0 w] (hx : IsInts w0 v xs) :
    Calls Tryz.prog 84 #[v] w fun e w' => ∃ d m, e = .returned (.slice d xs.length m) ∧ Own w' w.heap.size [intRowOf 3 (.slice d xs.length m) xs] ∧ Ext w w' := by
  have hx' := hx
  obtain ⟨a, c, rfl, la⟩ := hx.form
  cases a with
  | none =>
    have hz : xs = [] := by
      cases xs with
      | nil => rfl
      | cons x xs =>
        obtain ⟨b, o, h, _⟩ := hx.at (w' := w) (k := 0) (by simp)
        cases h
    subst hz
    have hnil := eqlNilInts c
    go_enter Tryz.func84, Tryz.ntmps84
    go_wp2
    go_ret
    exact ⟨none, 0, rfl, nilRow _ _ _, inferInstance⟩
  | some ad =>
    have own0 : Own (w.alloc (.cells #[] 3)) w.heap.size [⟨3, 1, .slice (some ⟨w.heap.size, 0, none⟩) 0 0, 0, []⟩] := Own.litInts (xs := []) (Nat.le_refl _) rfl rfl (by simp) rfl
    have hB : w.heap.size ≤ (w.alloc (.cells #[] 3)).heap.size := by simp
    have e0 : Ext w0 (w.alloc (.cells #[] 3)) := Ext.trans ‹Ext w0 w› inferInstance
    have hnil := eqlSomeInts ad xs.length c
    go_enter Tryz.func84, Tryz.ntmps84
    go_wp2_with (at_builtin; refine wpList_appendInts rfl _ _ _ rfl elemInt rfl own0 hB rfl (hx'.ext (w' := w.alloc (.cells #[] 3))) (by omega) ?_; intro v1 w1 ho hb1)
    go_ret
    rw [Nat.zero_add, List.nil_append] at ho
    obtain ⟨d, m, rfl⟩ := Own.formInts (e := 3) (xs := xs) ho
    exact ⟨d, m, rfl, ho, ⟨((Below.refl _ w).alloc (Nat.le_refl _) _).trans hb1⟩⟩
/-- the least of the first numbers -/
def leastTo (w : List Int) (k : Nat) : Int := ((w.drop 1).take k).foldl (minB id) (nth w 0)
theorem leastTo_succ {w : List Int} {k : Nat} (h : k + 1 < w.length) : leastTo w (k + 1) = minB id (leastTo w k) (nth w (k + 1)) := by
  rw [leastTo, foldTake _ _ (by rw [List.length_drop]; omega)]
  have : nth (w.drop 1) k = nth w (k + 1) := by simp [nth]
  rw [this]; rfl
theorem leastTo_all {w : List Int} {k : Nat} (h : k + 1 = w.length) : leastTo w k = leastL w := by
  rw [leastTo, List.take_of_length_le (by rw [List.length_drop]; omega)]; rfl
set_option maxHeartbeats 400000 in
theorem sMin_any {v : Value} {xs : List Int} {w0 w : World} [Ext w0 w] (hx : IsInts w0 v xs) (h0 : 0 < xs.length) :
    Calls Tryz.prog 148 #[v] w fun e w' => e = .returned (.int .i64 (leastL xs)) ∧ w = w' := by
  obtain ⟨a, c, rfl, la⟩ := hx.form
  obtain ⟨b, o, rfl, hc0⟩ := hx.at (w' := w) h0
  have h1 : decide ((xs.length : Int) < 1) = false := by simp; omega
  rw [Nat.add_zero] at hc0
  go_enter Tryz.func148, Tryz.ntmps148
  go_wp2
  go_loop [3, 4] (fun q i => ∃ k : Nat, k < xs.length ∧ i = .int .i64 ((k : Int) + 1) ∧ q = .int .i64 (leastTo xs k)) (fun _ i => xs.length - (intOf i).toNat)
  case atStart => exact ⟨0, by omega, rfl, rfl⟩
  case round =>
    obtain ⟨k, hk, rfl, rfl⟩ := hrel
    by_cases hlt : k + 1 < xs.length
    · obtain ⟨b', o', hq, hc⟩ := hx.at (w' := w) hlt
      cases hq
      have hs := hid (leastTo_succ hlt)
      have hlt' : (k : Int) + 1 < (xs.length : Int) := by omega
      generalize leastTo xs k = lt at *
      by_cases hg : nth xs (k + 1) < lt
      · have hm := hid (show minB id lt (nth xs (k + 1)) = nth xs (k + 1) from if_pos hg)
        go_wp2
        go_round
        case rel => exact ⟨k + 1, hlt, by go_num, by rw [hs.out, hm.out]⟩
        case measure => simp [intOf]; omega
      · have hm := hid (show minB id lt (nth xs (k + 1)) = lt from if_neg hg)
        go_wp2
        go_round
        case rel => exact ⟨k + 1, hlt, by go_num, by rw [hs.out, hm.out]⟩
        case measure => simp [intOf]; omega
    · have hlt' : ¬ (k : Int) + 1 < (xs.length : Int) := by omega
      go_wp2
      go_ret
      exact ⟨ret_int (leastTo_all (by omega)), rfl⟩
theorem l1Least_any (a b : Int) (w : World) :
    Calls Tryz.prog 77 #[.int .i64 a, .int .i64 b] w fun e w' => e = .returned (.int .i64 (minB id a b)) ∧ w = w' := by
  by_cases h : a < b
  · have hr := hid (show minB id a b = a from if_neg (by show ¬ b < a; omega))
    have h' : decide (a < b) = true := by simpa using h
    go_enter Tryz.func77, Tryz.ntmps77
    go_wp2
    go_ret
    exact ⟨ret_int hr.out.symm, rfl⟩
  · have hr := hid (show minB id a b = b by
      unfold minB
      by_cases h2 : b < a
      · exact if_pos h2
      · refine (if_neg h2).trans ?_
        omega)
    have h' : decide (a < b) = false := by simpa using h
    go_enter Tryz.func77, Tryz.ntmps77
    go_wp2
    go_ret
    exact ⟨ret_int hr.out.symm, rfl⟩
end Go.Proofs.YtmgcfnciejfpbaaGreat
namespace Go.Proofs.YtmgcfnciejfpbaaGreat
open Go.RowKit
end Go.Proofs.YtmgcfnciejfpbaaGreat
namespace Go.Proofs.YtmgcfnciejfpbaaGreat
open Go.RowKit

theorem isInts_zero (w : World) (d : Option Addr) (c : Nat) : IsInts w (.slice d ([] : List Int).length c) [] := ⟨d, c, rfl, ⟨Nat.zero_le _, Nat.zero_le _⟩, by simp, fun j hj => by simp at hj⟩
theorem isRows_zero (w : World) (d : Option Addr) (c : Nat) : IsRows w (.slice d ([] : List (List Int)).length c) [] := ⟨d, c, rfl, Nat.zero_le _, fun j hj => by simp at hj⟩
end Go.Proofs.YtmgcfnciejfpbaaGreat
namespace Go.Proofs.YtmgcfnciejfpbaaGreat
open Go.RowKit
end Go.Proofs.YtmgcfnciejfpbaaGreat
namespace Go.Proofs.YtmgcfnciejfpbaaGreat
open Go.RowKit
end Go.Proofs.YtmgcfnciejfpbaaGreat
namespace Go.Proofs.YtmgcfnciejfpbaaGreat
open Go.RowKit
end Go.Proofs.YtmgcfnciejfpbaaGreat
namespace Go.Proofs.YtmgcfnciejfpbaaGreat
open Go.RowKit
end Go.Proofs.YtmgcfnciejfpbaaGreat
namespace Go.Proofs.YtmgcfnciejfpbaaGreat
open Go.RowKit
/-- the row of a Repeat when k of its n cells are laid -/
def repL (c : Int) (n k : Nat) : List Value := (List.replicate k c ++ List.replicate (n - k) 0).map (Value.int .i64)
theorem repL_length {c : Int} {n k : Nat} (h : k ≤ n) : (repL c n k).length = n := by simp [repL]; omega
theorem rep_make (w : World) (c : Int) (n : Nat) (t : TypeId) : (w.alloc (.cells (Array.replicate n (.int .i64 0)) t)).heap[w.heap.size]? = some (.cells (repL c n 0).toArray t (0, 0)) := by
  have e : (repL c n 0).toArray = Array.replicate n (.int .i64 0) := by
    apply Array.toList_inj.1
    simp [repL]
  rw [e]
  exact Array.getElem?_push_size
theorem rep_splice {c : Int} {n k m : Nat} (_h : k + m ≤ n) : splice (repL c n k) k (List.replicate m (Value.int .i64 c)) = repL c n (k + m) := by
  have e1 : (repL c n k).take k = List.replicate k (Value.int .i64 c) := by
    rw [repL, List.map_append, List.take_append_of_le_length (by simp)]
    simp
  have e2 : (repL c n k).drop (k + m) = List.replicate (n - (k + m)) (Value.int .i64 0) := by
    rw [repL, List.map_append, List.drop_append]
    simp
    omega
  rw [splice, e1, List.length_replicate, e2, repL, List.map_append, List.map_replicate, List.map_replicate, ← List.append_assoc, List.replicate_append_replicate]
theorem rep_cell {w : World} {g n k j : Nat} {c : Int} {t : TypeId} (h : w.heap[g]? = some (.cells (repL c n k).toArray t (0, 0))) (hj : j < k) (hk : k ≤ n) : w.cell? ⟨g, j, none⟩ = some (.int .i64 c) := by
  have hl := repL_length (c := c) hk
  have : (repL c n k)[j]? = some (.int .i64 c) := by
    rw [repL, List.getElem?_map, List.getElem?_append_left (by simpa using hj)]
    simp [hj]
  simp [World.cell?, h, this]
end Go.Proofs.YtmgcfnciejfpbaaGreat
namespace Go.Proofs.YtmgcfnciejfpbaaGreat
open Go.RowKit
end Go.Proofs.YtmgcfnciejfpbaaGreat
namespace Go.Proofs.YtmgcfnciejfpbaaGreat
open Go.RowKit
end Go.Proofs.YtmgcfnciejfpbaaGreat
namespace Go.Proofs.YtmgcfnciejfpbaaGreat
open Go.RowKit

set_option maxHeartbeats 400000 in
theorem l1Same_any {v1 v2 : Value} {xs ys : List Int} {w0 w : World} [Ext w0 w] (hx : IsInts w0 v1 xs) (hy : IsInts w0 v2 ys) :
    Calls Tryz.prog 135 #[v1, v2] w fun e w' => e = .returned (.bool (decide (xs = ys))) ∧ Ext w w' := by
  obtain ⟨a, ca, rfl, la⟩ := hx.form
  obtain ⟨b, cb, rfl, lb⟩ := hy.form
  by_cases hn : xs.length = ys.length
  · have hne : ((xs.length : Int) != ys.length) = false := by simp [hn]
    replace hn := hid hn
    go_enter Tryz.func135, Tryz.ntmps135
    go_wp2
    go_loopw [5] (fun i wr => ∃ k : Nat, k ≤ xs.length ∧ i = .int .i64 k ∧ Hid (∀ j, j < k → nth xs j = nth ys j) ∧ Drew w wr) (fun i _ => xs.length - (intOf i).toNat)
    case atStart => exact ⟨0, by omega, rfl, by intro j hj; omega, Drew.refl _⟩
    case round =>
      obtain ⟨k, hk, rfl, heq, hd⟩ := hrel
      have ed : Ext w wr := hd.ext
      have e0 : Ext w0 wr := Ext.trans ‹Ext w0 w› ed
      by_cases hlt : k < xs.length
      · have hlt2 : k < ys.length := by have := hn.out; omega
        have hlt2' : (k : Int) < (ys.length : Int) := by omega
        obtain ⟨b1, o1, rfl, hc1⟩ := hx.at (w' := wr) hlt
        obtain ⟨b2, o2, rfl, hc2⟩ := hy.at (w' := wr) hlt2
        by_cases hc : nth xs k = nth ys k
        · have hc' : (nth xs k != nth ys k) = false := by simp [hc]
          replace hc := hid hc
          go_wp2_with (go_quiet (fail))
          go_roundw
          case rel =>
            refine ⟨k + 1, by omega, by go_num, ?_, hd.step _⟩
            intro j hj
            by_cases hjk : j = k
            · subst hjk; exact hc.out
            · exact heq.out j (by omega)
          case measure => simp [intOf]; omega
        · have hc' : (nth xs k != nth ys k) = true := by simpa using hc
          have hfin := hid (show decide (xs = ys) = false from decide_eq_false (fun h => hc (by rw [h])))
          replace hc := hid hc
          go_wp2_with (go_quiet (fail))
          go_ret
          exact ⟨ret_bool hfin.out.symm, Ext.trans ed inferInstance⟩
      · have hfin := hid (show decide (xs = ys) = true from decide_eq_true (eq_of_nth hn.out (fun j hj => heq.out j (by omega))))
        go_wp2
        go_ret
        exact ⟨ret_bool hfin.out.symm, ed⟩
  · have hne : ((xs.length : Int) != ys.length) = true := by simp; omega
    have hfin := hid (show decide (xs = ys) = false from decide_eq_false (fun h => hn (by rw [h])))
    replace hn := hid hn
    go_enter Tryz.func135, Tryz.ntmps135
    go_wp2
    go_ret
    exact ⟨ret_bool hfin.out.symm, Ext.refl _⟩
end Go.Proofs.YtmgcfnciejfpbaaGreat
