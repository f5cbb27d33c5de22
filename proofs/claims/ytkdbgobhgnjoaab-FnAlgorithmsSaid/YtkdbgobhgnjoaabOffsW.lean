/- Small walks for offsets: sameness, places, normal lists. -/
import Derived.Test.YtkdbgobhgnjoaabOffsP
import Derived.Test.YtkdbgobhgnjoaabWorkW
import Derived.Test.YtkdbgobhgnjoaabLib
namespace Go.Proofs.Ytkdbgobhgnjoaab
open Go.RowKit

set_option maxHeartbeats 400000 in
theorem l1Same_any {v1 v2 : Value} {xs ys : List Int} {w0 w : World} [Ext w0 w] (hx : IsInts w0 v1 xs) (hy : IsInts w0 v2 ys) :
    Calls Try.prog 111 #[v1, v2] w fun e w' => e = .returned (.bool (decide (xs = ys))) ∧ Ext w w' := by
  obtain ⟨a, ca, rfl, la⟩ := hx.form
  obtain ⟨b, cb, rfl, lb⟩ := hy.form
  by_cases hn : xs.length = ys.length
  · have hne : ((xs.length : Int) != ys.length) = false := by simp [hn]
    replace hn := hid hn
    go_enter Try.func111, Try.ntmps111
    go_wp2
    go_loopw [5] (fun i wr => ∃ k : Nat, k ≤ xs.length ∧ i = .int .i64 k ∧ Hid (∀ j, j < k → nth xs j = nth ys j) ∧ Drew w wr) (fun i _ => xs.length - (intOf i).toNat)
    case atStart => exact ⟨0, by omega, rfl, by intro j hj; omega, Drew.refl _⟩
    case round =>
      obtain ⟨k, hk, rfl, heq, hd⟩ := hrel
      have ed : Ext w wr := hd.ext
      have e0 : Ext w0 wr := Ext.trans ‹Ext w0 w› ed
      by_cases hlt : k < xs.length
      · have hlt2 : k < ys.length := by have := hn.out; omega
        have hlt2' : (k : Int) < (ys.length : Int) := by omega
        obtain ⟨b1, o1, rfl, hc1⟩ := hx.at (w' := wr) hlt
        obtain ⟨b2, o2, rfl, hc2⟩ := hy.at (w' := wr) hlt2
        by_cases hc : nth xs k = nth ys k
        · have hc' : (nth xs k != nth ys k) = false := by simp [hc]
          replace hc := hid hc
          go_wp2_with (go_quiet (fail))
          go_roundw
          case rel =>
            refine ⟨k + 1, by omega, by go_num, ?_, hd.step _⟩
            intro j hj
            by_cases hjk : j = k
            · subst hjk; exact hc.out
            · exact heq.out j (by omega)
          case measure => simp [intOf]; omega
        · have hc' : (nth xs k != nth ys k) = true := by simpa using hc
          have hfin := hid (show decide (xs = ys) = false from decide_eq_false (fun h => hc (by rw [h])))
          replace hc := hid hc
          go_wp2_with (go_quiet (fail))
          go_ret
          exact ⟨ret_bool hfin.out.symm, Ext.trans ed inferInstance⟩
      · have hfin := hid (show decide (xs = ys) = true from decide_eq_true (eq_of_nth hn.out (fun j hj => heq.out j (by omega))))
        go_wp2
        go_ret
        exact ⟨ret_bool hfin.out.symm, ed⟩
  · have hne : ((xs.length : Int) != ys.length) = true := by simp; omega
    have hfin := hid (show decide (xs = ys) = false from decide_eq_false (fun h => hn (by rw [h])))
    replace hn := hid hn
    go_enter Try.func111, Try.ntmps111
    go_wp2
    go_ret
    exact ⟨ret_bool hfin.out.symm, Ext.refl _⟩

set_option maxHeartbeats 400000 in
theorem sEqual_any {v1 v2 : Value} {xs ys : List Int} {w0 w : World} [Ext w0 w] (hx : IsInts w0 v1 xs) (hy : IsInts w0 v2 ys) :
    Calls Try.prog 99 #[v1, v2] w fun e w' => e = .returned (.bool (decide (xs = ys))) ∧ Ext w w' := by
  obtain ⟨a, ca, rfl, la⟩ := hx.form
  obtain ⟨b, cb, rfl, lb⟩ := hy.form
  by_cases hn : xs.length = ys.length
  · have hne : ((xs.length : Int) != ys.length) = false := by simp [hn]
    replace hn := hid hn
    go_enter Try.func99, Try.ntmps99
    go_wp2
    go_loopw [13] (fun i wr => ∃ k : Nat, k ≤ xs.length ∧ i = .int .i64 k ∧ Hid (∀ j, j < k → nth xs j = nth ys j) ∧ Drew w wr) (fun i _ => xs.length - (intOf i).toNat)
    case atStart => exact ⟨0, by omega, rfl, by intro j hj; omega, Drew.refl _⟩
    case round =>
      obtain ⟨k, hk, rfl, heq, hd⟩ := hrel
      have ed : Ext w wr := hd.ext
      have e0 : Ext w0 wr := Ext.trans ‹Ext w0 w› ed
      by_cases hlt : k < xs.length
      · have hlt2 : k < ys.length := by have := hn.out; omega
        have hlt2' : (k : Int) < (ys.length : Int) := by omega
        obtain ⟨b1, o1, rfl, hc1⟩ := hx.at (w' := wr) hlt
        obtain ⟨b2, o2, rfl, hc2⟩ := hy.at (w' := wr) hlt2
        by_cases hc : nth xs k = nth ys k
        · have hc' : (nth xs k != nth ys k) = false := by simp [hc]
          replace hc := hid hc
          go_wp2_with (go_quiet (fail))
          go_roundw
          case rel =>
            refine ⟨k + 1, by omega, by go_num, ?_, hd.step _⟩
            intro j hj
            by_cases hjk : j = k
            · subst hjk; exact hc.out
            · exact heq.out j (by omega)
          case measure => simp [intOf]; omega
        · have hc' : (nth xs k != nth ys k) = true := by simpa using hc
          have hfin := hid (show decide (xs = ys) = false from decide_eq_false (fun h => hc (by rw [h])))
          replace hc := hid hc
          go_wp2_with (go_quiet (fail))
          go_ret
          exact ⟨ret_bool hfin.out.symm, Ext.trans ed inferInstance⟩
      · have hfin := hid (show decide (xs = ys) = true from decide_eq_true (eq_of_nth hn.out (fun j hj => heq.out j (by omega))))
        go_wp2
        go_ret
        exact ⟨ret_bool hfin.out.symm, ed⟩
  · have hne : ((xs.length : Int) != ys.length) = true := by simp; omega
    have hfin := hid (show decide (xs = ys) = false from decide_eq_false (fun h => hn (by rw [h])))
    replace hn := hid hn
    go_enter Try.func99, Try.ntmps99
    go_wp2
    go_ret
    exact ⟨ret_bool hfin.out.symm, Ext.refl _⟩

set_option maxHeartbeats 800000 in
theorem l8Place_any {v1 v2 : Value} {L : List (List Int)} {xs : List Int} {w0 w : World} [Ext w0 w] (hL : IsRows w0 v1 L) (hx : IsInts w0 v2 xs) :
    Calls Try.prog 102 #[v1, v2] w fun e w' => e = .returned (.int .i64 (ixL (fun o => decide (o = xs)) L 0)) ∧ Ext w w' := by
  have hx' := hx
  obtain ⟨a, ca, rfl, la⟩ := hL.form
  obtain ⟨b, cb, rfl, lb⟩ := hx.form
  go_enter Try.func102, Try.ntmps102
  go_wp2
  go_loopw [5] (fun i wr => ∃ k : Nat, k ≤ L.length ∧ i = .int .i64 k ∧ Hid (∀ j, j < k → decide (row L j = xs) = false) ∧ Ext w wr) (fun i _ => L.length - (intOf i).toNat)
  case atStart => exact ⟨0, by omega, rfl, by intro j hj; omega, Ext.refl _⟩
  case round =>
    obtain ⟨k, hk, rfl, hno, hd⟩ := hrel
    have e0 : Ext w0 wr := Ext.trans ‹Ext w0 w› hd
    by_cases hlt : k < L.length
    · obtain ⟨b1, o1, d1, m1, rfl, hc1, hr1, _⟩ := hL.at (w' := wr) hlt
      cases hp : decide (row L k = xs) with
      | true =>
        have hres := hid (ixL_some (p := fun o => decide (o = xs)) (xs := L) (i := 0) hlt hp (fun j hj => hno.out j hj))
        rw [Nat.zero_add] at hres
        replace hp := hid hp
        go_wp2_with fail
        refine (l1Same_any (w0 := w0) hr1 hx').mono ?_; rw [hp.out]; rintro e w1 ⟨rfl, hb⟩
        go_wp2_with fail
        go_ret
        exact ⟨ret_int hres.out.symm, Ext.trans hd hb⟩
      | false =>
        replace hp := hid hp
        go_wp2_with fail
        refine (l1Same_any (w0 := w0) hr1 hx').mono ?_; rw [hp.out]; rintro e w1 ⟨rfl, hb⟩
        go_wp2_with fail
        go_roundw
        case rel =>
          refine ⟨k + 1, by omega, by go_num, ?_, Ext.trans hd hb⟩
          intro j hj
          by_cases hjk : j = k
          · subst hjk; exact hp.out
          · exact hno.out j (by omega)
        case measure => simp [intOf]; omega
    · have hres := hid (ixL_none (p := fun o => decide (o = xs)) (xs := L) (i := 0) (fun j hj => hno.out j (by omega)))
      go_wp2
      go_ret
      exact ⟨ret_int hres.out.symm, hd⟩

def normTo (w : List Int) (k : Nat) : List Int := (List.range k).map fun i => nth w i - leastL w
theorem normTo_succ (w : List Int) (k : Nat) : normTo w (k + 1) = normTo w k ++ [nth w k - leastL w] := by simp [normTo, List.range_succ]
theorem normTo_length (w : List Int) (k : Nat) : (normTo w k).length = k := by simp [normTo]
theorem normTo_all (w : List Int) : normTo w w.length = normL w := by
  refine eq_of_nth (by rw [normTo_length, normL_length]) fun j hj => ?_
  rw [normTo_length] at hj
  rw [nth_normL hj]
  simp [normTo, nth, hj]

set_option maxHeartbeats 800000 in
set_option maxRecDepth 100000 in
theorem l8Offset_any {v : Value} {ws : List Int} {w0 w : World} [Ext w0 w] (hx : IsInts w0 v ws) (h0 : 0 < ws.length) (hb : ∀ k, k < ws.length → 0 ≤ nth ws k ∧ nth ws k ≤ 100000) :
    Calls Try.prog 100 #[v] w fun e w' => ∃ d m, e = .returned (.tuple #[.slice d (normL ws).length m, .int .i64 (leastL ws)]) ∧ Own w' w.heap.size [intRowOf 3 (.slice d (normL ws).length m) (normL ws)] ∧ Ext w w' := by
  have hx' := hx
  obtain ⟨a, c, rfl, l⟩ := hx.form
  have hne : ws ≠ [] := by intro e; rw [e] at h0; simp at h0
  have hlb := hid (show 0 ≤ leastL ws ∧ leastL ws ≤ 100000 by
    obtain ⟨⟨q, hq, e⟩, _⟩ := leastL_min hne
    obtain ⟨k, hk, rfl⟩ := mem_iff_nth.1 hq
    have := hb k hk
    have e' : leastL ws = nth ws k := e
    omega)
  replace hb := hid hb
  go_enter Try.func100, Try.ntmps100
  go_wp2_with fail
  refine (l8Least_any (w0 := w0) hx' h0).mono ?_
  rintro e w1 ⟨rfl, rfl⟩
  go_upto_region 2 with fail
  have own0 : Own (w.alloc (.cells #[] 3)) w.heap.size [intRowOf 3 (.slice (some ⟨w.heap.size, 0, none⟩) ([] : List Int).length 0) (normTo ws 0)] := Own.litInts (xs := []) (Nat.le_refl _) rfl rfl (by simp) rfl
  have eW : Ext w (w.alloc (.cells #[] 3)) := inferInstance
  generalize w.alloc (.cells #[] 3) = W at *
  go_wp2
  go_loopw [5, 6] (fun v i wr => ∃ k : Nat, k ≤ ws.length ∧ i = .int .i64 k ∧ Own wr w.heap.size [intRowOf 3 v (normTo ws k)] ∧ Ext w wr) (fun _ i _ => ws.length - (intOf i).toNat)
  case atStart => exact ⟨0, by omega, rfl, own0, eW⟩
  case round =>
    obtain ⟨k, hk, rfl, hown, hd⟩ := hrel
    obtain ⟨vd, vm, rfl⟩ := hown.formInts
    have hlj : (normTo ws k).length ≤ ws.length := by rw [normTo_length]; omega
    have e0 : Ext w0 wr := Ext.trans ‹Ext w0 w› hd
    by_cases hlt : k < ws.length
    · obtain ⟨b3, o3, rfl, hc3⟩ := hx.at (w' := wr) hlt
      have hB : w.heap.size ≤ wr.heap.size := hd.size
      have hsucc := hid (normTo_succ ws k)
      have q1 := hb.out k hlt
      have q2 := hlb.out
      generalize hg : normTo ws k = nx at *
      replace hg := hid hg
      generalize leastL ws = lw at *
      go_wp2_with (at_builtin; refine wpList_append1 rfl _ _ _ rfl elemInt rfl hown hB rfl rfl (by omega) (by omega) ?_; intro v1 w1 ho hb1)
      go_roundw
      case rel => exact ⟨k + 1, by omega, by go_num, by rw [hsucc.out]; exact own_snoc ho rfl, ⟨hd.below.trans hb1⟩⟩
      case measure => simp [intOf]; omega
    · have : k = ws.length := by omega
      subst this
      rw [normTo_all] at hown ⊢
      go_wp2
      go_ret2
      exact ⟨_, _, rfl, hown, hd⟩

end Go.Proofs.Ytkdbgobhgnjoaab
