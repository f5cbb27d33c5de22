/- The laws' own helpers on lists of ints. -/
import Derived.Test.YtdohjmbhgjfcaaaDoorProg
import Derived.Test.YtdohjmbhgjfcaaaDoorAppend
namespace Go.Proofs.YtdohjmbhgjfcaaaDoor
open Go.RowKit

theorem Tryd.infoInt : (Tryd.prog.info? 3).map (fun i => (i.zero, i.size, i.bytes)) = some (some (.int .i64 0), 1, 8) := by kernel_rfl
theorem elemInt : Elem Tryd.prog 41 3 (.int .i64 0) 1 8 := ⟨Tryd.underlying41, info_parts Tryd.infoInt, rfl, by decide⟩

/-- whether two lists are the same -/
def eqL (xs ys : List Int) : Bool := decide (xs = ys)
theorem eqL_iff {xs ys : List Int} : eqL xs ys = true ↔ xs = ys := by simp [eqL]

theorem ret_bool {a b : Bool} (h : a = b) : Ending.returned (.bool a) = .returned (.bool b) := by rw [h]
theorem ret_int {a b : Int} (h : a = b) : Ending.returned (.int .i64 a) = .returned (.int .i64 b) := by rw [h]

set_option maxHeartbeats 400000 in
theorem eqIntS_any {v1 v2 : Value} {xs ys : List Int} {w0 w : World} [Ext w0 w] (hx : IsInts w0 v1 xs) (hy : IsInts w0 v2 ys) :
    Calls Tryd.prog 138 #[v1, v2] w fun e w' => e = .returned (.bool (eqL xs ys)) ∧ Drew w w' := by
  obtain ⟨a, ca, rfl, la⟩ := hx.form
  obtain ⟨b, cb, rfl, lb⟩ := hy.form
  by_cases hn : xs.length = ys.length
  · have hne : ((xs.length : Int) != ys.length) = false := by simp [hn]
    replace hn := hid hn
    go_enter Tryd.func138, Tryd.ntmps138
    go_wp2
    go_loopw [5] (fun i wr => ∃ k : Nat, k ≤ xs.length ∧ i = .int .i64 k ∧ Hid (∀ j, j < k → nth xs j = nth ys j) ∧ Drew w wr) (fun i _ => xs.length - (intOf i).toNat)
    case atStart => exact ⟨0, by omega, rfl, by intro j hj; omega, Drew.refl _⟩
    case round =>
      obtain ⟨k, hk, rfl, heq, hd⟩ := hrel
      by_cases hlt : k < xs.length
      · have e0 : Ext w0 wr := Ext.trans ‹Ext w0 w› hd.ext
        obtain ⟨b1, o1, rfl, hc1⟩ := hx.at (w' := wr) hlt
        obtain ⟨b2, o2, rfl, hc2⟩ := hy.at (w' := wr) (k := k) (by have := hn.out; omega)
        have hlt2 : k < ys.length := by have := hn.out; omega
        go_wp2_with (go_quiet (fail))
        · go_ret
          have h : (nth xs k != nth ys k) = true := by assumption
          refine ⟨ret_bool ?_, hd.step _⟩
          symm
          rw [Bool.eq_false_iff]
          intro h'
          rw [eqL_iff] at h'
          subst h'
          simp at h
        · have h : (nth xs k != nth ys k) = false := by assumption
          go_roundw
          case rel =>
            refine ⟨k + 1, by omega, by go_num, ?_, hd.step _⟩
            intro j hj
            by_cases hjk : j = k
            · subst hjk; simpa using h
            · exact heq.out j (by omega)
          case measure => simp [intOf]; omega
      · go_wp2
        go_ret
        refine ⟨ret_bool ?_, hd⟩
        symm
        rw [eqL_iff]
        have : k = xs.length := by omega
        subst this
        exact eq_of_nth hn.out heq.out
  · have hne : ((xs.length : Int) != ys.length) = true := by simp; omega
    replace hn := hid hn
    go_enter Tryd.func138, Tryd.ntmps138
    go_wp2
    go_ret
    refine ⟨ret_bool ?_, Drew.refl _⟩
    symm
    rw [Bool.eq_false_iff]
    intro h'
    rw [eqL_iff] at h'
    subst h'
    exact hn.out rfl

theorem toIntS_step {xs : List Int} {k : Nat} (h : k < xs.length) :
    ((xs.take k ++ List.replicate (xs.length - k) 0).map (Value.int .i64)).set k (.int .i64 (nth xs k)) = (xs.take (k + 1) ++ List.replicate (xs.length - (k + 1)) 0).map (Value.int .i64) := by
  rw [take_succ_nth h, ← List.map_set]
  congr 1
  have h1 : xs.length - k = (xs.length - (k + 1)) + 1 := by omega
  have h2 : (xs.take k).length = k := by simp; omega
  rw [h1, List.replicate_succ, List.set_append, if_neg (by omega), h2]
  simp

set_option maxHeartbeats 400000 in
theorem toIntS_any {v : Value} {xs : List Int} {w0 w : World} [Ext w0 w] (hx : IsInts w0 v xs) :
    Calls Tryd.prog 127 #[v] w fun e w' => ∃ d m, e = .returned (.slice d xs.length m) ∧ Own w' w.heap.size [intRowOf 3 (.slice d xs.length m) xs] ∧ Ext w w' := by
  obtain ⟨a, ca, rfl, la⟩ := hx.form
  go_enter Tryd.func127, Tryd.ntmps127
  go_wp2_with (at_make; refine wpList_makeOwn rfl _ _ _ rfl elemInt xs.length rfl rfl la (by omega) rfl ?_; intro hown)
  go_loopw [4] (fun i wr => ∃ k : Nat, k ≤ xs.length ∧ i = .int .i64 k ∧ Own wr w.heap.size [⟨3, 1, .slice (some ⟨w.heap.size, 0, none⟩) xs.length xs.length, xs.length, (xs.take k ++ List.replicate (xs.length - k) 0).map (Value.int .i64)⟩] ∧ Ext w wr) (fun i _ => xs.length - (intOf i).toNat)
  case atStart => exact ⟨0, by omega, rfl, by simpa using hown, inferInstance⟩
  case round =>
    obtain ⟨k, hk, rfl, hown, hb⟩ := hrel
    by_cases hlt : k < xs.length
    · have e0 : Ext w0 wr := Ext.trans ‹Ext w0 w› hb
      obtain ⟨b1, o1, rfl, hc1⟩ := hx.at (w' := wr) hlt
      have hc := hown.cellAt (w' := wr) hlt
      have hf := hown.frozenAt k
      go_wp2
      go_roundw
      case rel =>
        refine ⟨k + 1, by omega, by go_num, ?_, Ext.set (Nat.le_refl _) _⟩
        have h := hown.set k (.int .i64 (nth xs k))
        rw [toIntS_step hlt] at h
        exact h
      case measure => simp [intOf]; omega
    · go_wp2
      go_ret
      have : k = xs.length := by omega
      subst this
      refine ⟨_, _, rfl, ?_, inferInstance⟩
      simpa using hown

def iota (k : Int) (n : Nat) : List Int := (List.range n).map fun i : Nat => k + (i : Int)
theorem iota_length (k : Int) (n : Nat) : (iota k n).length = n := by simp [iota]
theorem iota_succ (k : Int) (n : Nat) : iota k (n + 1) = iota k n ++ [k + n] := by simp [iota, List.range_succ]
theorem nth_iota {k : Int} {n j : Nat} (h : j < n) : nth (iota k n) j = k + j := by simp [iota, nth, h]
theorem mark_step {xs : List Int} {k : Int} {i : Nat} (h : i < xs.length) :
    ((iota k i ++ xs.drop i).map (Value.int .i64)).set i (.int .i64 (k + i)) = (iota k (i + 1) ++ xs.drop (i + 1)).map (Value.int .i64) := by
  rw [iota_succ, ← List.map_set]
  congr 1
  have h1 : xs.drop i = xs[i] :: xs.drop (i + 1) := List.drop_eq_getElem_cons h
  rw [h1, List.set_append, if_neg (by rw [iota_length]; omega), iota_length]
  simp only [Nat.sub_self, List.set_cons_zero, List.append_assoc, List.singleton_append]

/-- what heldIntS answers -/
def heldK (xs : List Int) (k : Int) : Int := if xs = iota k xs.length then k + xs.length else -1

end Go.Proofs.YtdohjmbhgjfcaaaDoor
