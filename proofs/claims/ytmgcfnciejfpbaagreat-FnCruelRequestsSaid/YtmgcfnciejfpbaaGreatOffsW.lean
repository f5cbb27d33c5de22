/- Small walks for offsets: sameness, places, normal lists. -/
import Derived.Test.YtmgcfnciejfpbaaGreatOffsP
import Derived.Test.YtmgcfnciejfpbaaGreatWorkW
import Derived.Test.YtmgcfnciejfpbaaGreatLib
namespace Go.Proofs.YtmgcfnciejfpbaaGreat
open Go.RowKit

set_option maxHeartbeats 400000 in
theorem l1Same_any {v1 v2 : Value} {xs ys : List Int} {w0 w : World} [Ext w0 w] (hx : IsInts w0 v1 xs) (hy : IsInts w0 v2 ys) :
    Calls Tryz.prog 135 #[v1, v2] w fun e w' => e = .returned (.bool (decide (xs = ys))) ∧ Ext w w' := by
  obtain ⟨a, ca, rfl, la⟩ := hx.form
  obtain ⟨b, cb, rfl, lb⟩ := hy.form
  by_cases hn : xs.length = ys.length
  · have hne : ((xs.length : Int) != ys.length) = false := by simp [hn]
    replace hn := hid hn
    go_enter Tryz.func135, Tryz.ntmps135
    go_wp2
    go_loopw [5] (fun i wr => ∃ k : Nat, k ≤ xs.length ∧ i = .int .i64 k ∧ Hid (∀ j, j < k → nth xs j = nth ys j) ∧ Drew w wr) (fun i _ => xs.length - (intOf i).toNat)
    case atStart => exact ⟨0, by omega, rfl, by intro j hj; omega, Drew.refl _⟩
    case round =>
      obtain ⟨k, hk, rfl, heq, hd⟩ := hrel
      have ed : Ext w wr := hd.ext
      have e0 : Ext w0 wr := Ext.trans ‹Ext w0 w› ed
      by_cases hlt : k < xs.length
      · have hlt2 : k < ys.length := by have := hn.out; omega
        have hlt2' : (k : Int) < (ys.length : Int) := by omega
        obtain ⟨b1, o1, rfl, hc1⟩ := hx.at (w' := wr) hlt
        obtain ⟨b2, o2, rfl, hc2⟩ := hy.at (w' := wr) hlt2
        by_cases hc : nth xs k = nth ys k
        · have hc' : (nth xs k != nth ys k) = false := by simp [hc]
          replace hc := hid hc
          go_wp2_with (go_quiet (fail))
          go_roundw
          case rel =>
            refine ⟨k + 1, by omega, by go_num, ?_, hd.step _⟩
            intro j hj
            by_cases hjk : j = k
            · subst hjk; exact hc.out
            · exact heq.out j (by omega)
          case measure => simp [intOf]; omega
        · have hc' : (nth xs k != nth ys k) = true := by simpa using hc
          have hfin := hid (show decide (xs = ys) = false from decide_eq_false (fun h => hc (by rw [h])))
          replace hc := hid hc
          go_wp2_with (go_quiet (fail))
          go_ret
          exact ⟨ret_bool hfin.out.symm, Ext.trans ed inferInstance⟩
      · have hfin := hid (show decide (xs = ys) = true from decide_eq_true (eq_of_nth hn.out (fun j hj => heq.out j (by omega))))
        go_wp2
        go_ret
        exact ⟨ret_bool hfin.out.symm, ed⟩
  · have hne : ((xs.length : Int) != ys.length) = true := by simp; omega
    have hfin := hid (show decide (xs = ys) = false from decide_eq_false (fun h => hn (by rw [h])))
    replace hn := hid hn
    go_enter Tryz.func135, Tryz.ntmps135
    go_wp2
    go_ret
    exact ⟨ret_bool hfin.out.symm, Ext.refl _⟩

def normTo (w : List Int) (k : Nat) : List Int := (List.range k).map fun i => nth w i - leastL w
theorem normTo_succ (w : List Int) (k : Nat) : normTo w (k + 1) = normTo w k ++ [nth w k - leastL w] := by simp [normTo, List.range_succ]
theorem normTo_length (w : List Int) (k : Nat) : (normTo w k).length = k := by simp [normTo]
theorem normTo_all (w : List Int) : normTo w w.length = normL w := by
  refine eq_of_nth (by rw [normTo_length, normL_length]) fun j hj => ?_
  rw [normTo_length] at hj
  rw [nth_normL hj]
  simp [normTo, nth, hj]

end Go.Proofs.YtmgcfnciejfpbaaGreat
