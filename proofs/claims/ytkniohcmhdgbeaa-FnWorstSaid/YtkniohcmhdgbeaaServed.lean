/- The states in which a request can be served; the number of algorithms. -/
import Derived.Test.YtkniohcmhdgbeaaLawC
import Derived.Deep.Cut
namespace Go.Proofs.Ytkniohcmhdgbeaa
open Go.RowKit

/-- the indices below k of numbers that are not negative -/
def servedTo (cs : List Int) (k : Nat) : List Int := ((List.range k).filter fun i => decide (0 ≤ nth cs i)).map fun i : Nat => (i : Int)
def servedL (cs : List Int) : List Int := servedTo cs cs.length
theorem servedTo_succ_yes {cs : List Int} {k : Nat} (h : 0 ≤ nth cs k) : servedTo cs (k + 1) = servedTo cs k ++ [(k : Int)] := by
  simp [servedTo, List.range_succ, List.filter_append, h]
theorem servedTo_succ_no {cs : List Int} {k : Nat} (h : ¬ 0 ≤ nth cs k) : servedTo cs (k + 1) = servedTo cs k := by
  simp [servedTo, List.range_succ, List.filter_append, h]
theorem servedTo_length (cs : List Int) (k : Nat) : (servedTo cs k).length ≤ k := by
  induction k with
  | zero => simp [servedTo]
  | succ k ih =>
    by_cases h : 0 ≤ nth cs k
    · rw [servedTo_succ_yes h]; simp; omega
    · rw [servedTo_succ_no h]; omega
theorem servedTo_mem {cs : List Int} {k : Nat} {x : Int} : x ∈ servedTo cs k ↔ ∃ i : Nat, i < k ∧ 0 ≤ nth cs i ∧ x = i := by
  simp only [servedTo, List.mem_map, List.mem_filter, List.mem_range, decide_eq_true_eq]
  constructor
  · rintro ⟨i, ⟨h1, h2⟩, rfl⟩; exact ⟨i, h1, h2, rfl⟩
  · rintro ⟨i, h1, h2, rfl⟩; exact ⟨i, ⟨h1, h2⟩, rfl⟩
theorem servedTo_i64 {cs : List Int} {k : Nat} (hk : k ≤ 17592186044415) : ∀ x ∈ servedTo cs k, I64 x := by
  intro x hx
  obtain ⟨i, h1, _, rfl⟩ := servedTo_mem.1 hx
  unfold I64
  omega

/-- the behind of an append: the value's form -/
theorem Own.formInts {w : World} {B e : Nat} {v : Value} {xs : List Int} {R : List Row} (h : Own w B (intRowOf e v xs :: R)) : ∃ d m, v = .slice d xs.length m := h.form
theorem own_snoc {w : World} {B e : Nat} {v : Value} {xs : List Int} {x : Int} {n : Nat} {R : List Row} (h : Own w B (⟨e, 1, v, n + 1, xs.map (Value.int .i64) ++ [.int .i64 x]⟩ :: R)) (hn : n = xs.length) : Own w B (intRowOf e v (xs ++ [x]) :: R) := by
  subst hn
  unfold intRowOf
  rw [List.map_append, List.length_append]
  exact h

set_option maxHeartbeats 800000 in
set_option maxRecDepth 100000 in
theorem served_any {v1 v2 : Value} {M S : List (List Int)} {r : Int} {w0 w : World} [Ext w0 w] (hM : IsRows w0 v1 M) (hS : IsRows w0 v2 S) (hr0 : 0 ≤ r) (hr1 : r < S.length) :
    Calls Try.prog 55 #[.agg #[v1, v2], .int .i64 r] w fun e w' => ∃ d m, e = .returned (.slice d (servedL (row S r.toNat)).length m) ∧ Own w' w.heap.size [intRowOf 3 (.slice d (servedL (row S r.toNat)).length m) (servedL (row S r.toNat))] ∧ Ext w w' := by
  obtain ⟨a1, c1, rfl, l1⟩ := hM.form
  obtain ⟨a2, c2, rfl, l2⟩ := hS.form
  obtain ⟨k, rfl⟩ := Int.eq_ofNat_of_zero_le hr0
  have hk : k < S.length := by omega
  rw [Int.toNat_natCast]
  go_enter Try.func55, Try.ntmps55
  go_upto_region 2 with fail
  generalize hW : (w.alloc (.cells #[.slice a1 M.length c1, .slice a2 S.length c2] 26)).alloc (.cells #[] 3) = W
  have eW : Ext w W := hW ▸ inferInstance
  have e0 : Ext w0 W := Ext.trans ‹Ext w0 w› eW
  have x1 : W.cell? ⟨w.heap.size, 1, none⟩ = some (.slice a2 S.length c2) := by subst hW; go_simp
  have own0 : Own W w.heap.size [intRowOf 3 (.slice (some ⟨w.heap.size + 1, 0, none⟩) ([] : List Int).length 0) []] := by
    subst hW
    exact Own.litInts (by simp) (by simp) rfl (by simp) rfl
  clear hW
  obtain ⟨b, o, d, m, rfl, hc, hrow, hlen⟩ := hS.at (w' := W) hk
  generalize hcs : row S k = cs at *
  replace hcs := hid hcs
  go_wp2
  go_loopw [5, 15] (fun v i wr => ∃ j : Nat, j ≤ cs.length ∧ i = .int .i64 j ∧ Own wr w.heap.size [intRowOf 3 v (servedTo cs j)] ∧ Ext w wr) (fun _ i _ => cs.length - (intOf i).toNat)
  case atStart => exact ⟨0, by omega, rfl, own0, eW⟩
  case round =>
    obtain ⟨j, hj, rfl, hown, hb⟩ := hrel
    obtain ⟨vd, vm, rfl⟩ := hown.formInts
    have hlj := servedTo_length cs j
    by_cases hlt : j < cs.length
    · have e1 : Ext w0 wr := Ext.trans ‹Ext w0 w› hb
      obtain ⟨b1, o1, rfl, hc1⟩ := hrow.at (w' := wr) hlt
      have hB : w.heap.size ≤ wr.heap.size := hb.size
      by_cases hge : 0 ≤ nth cs j
      · have hse := hid (servedTo_succ_yes hge)
        go_wp2_with (at_builtin; refine wpList_append1 rfl _ _ _ rfl elemInt rfl hown hB rfl rfl (by omega) (by omega) ?_; intro v1 w1 ho hb1)
        go_roundw
        case rel =>
          exact ⟨j + 1, by omega, by go_num, by rw [hse.out]; exact own_snoc ho rfl, ⟨hb.below.trans hb1⟩⟩
        case measure => simp [intOf]; omega
      · have hse := hid (servedTo_succ_no hge)
        have hge' : decide (0 ≤ nth cs j) = false := by simpa using hge
        go_wp2
        go_roundw
        case rel => exact ⟨j + 1, by omega, by go_num, by rw [hse.out]; exact hown, hb⟩
        case measure => simp [intOf]; omega
    · go_wp2
      go_ret
      have : j = cs.length := by omega
      subst this
      have := hcs.out
      subst this
      exact ⟨_, _, rfl, hown, hb⟩
end Go.Proofs.Ytkniohcmhdgbeaa
