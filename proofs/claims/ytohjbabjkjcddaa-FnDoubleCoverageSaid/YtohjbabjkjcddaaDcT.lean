/- Double coverage walked: one step of the reference. -/
import Derived.Test.YtohjbabjkjcddaaDcS
namespace Go.Proofs.Ytohjbabjkjcddaa
open Go.RowKit

def Cov2Post (a : List Int) (r : Int) (w : World) (e : Ending) (w' : World) : Prop :=
  ∃ d m, e = .returned (.tuple #[.slice d a.length m, .int .i64 (apL a (covL a r))]) ∧ Own w' w.heap.size [intRowOf 3 (.slice d a.length m) (covL a r)] ∧ Ext w w'
set_option maxHeartbeats 1600000 in
set_option maxRecDepth 100000 in
theorem l6Cover_any {v : Value} {a : List Int} {r : Int} {w0 w : World} [Ext w0 w] (hv : IsInts w0 v a) (ha : Asc a) (h0 : 0 < a.length) (h3 : a.length ≤ 3) (hb : ∀ x ∈ a, -1000 ≤ x ∧ x ≤ 1000) (hr : -1000 ≤ r ∧ r ≤ 1000) :
    Calls Try.prog 52 #[v, .int .i64 r] w fun e w' => Cov2Post a r w e w' := by
  have hv' := hv
  obtain ⟨da, ca, rfl, la⟩ := hv.form
  obtain ⟨bs, os, rfl, _⟩ := hv'.at (w' := w) h0
  have hco : covL a r = covAt a r (posL a r) := rfl
  have hple := posL_le a r
  have hlo := fun j (h : j < posL a r) => posL_lt (a := a) (r := r) (j := j) h
  have hhi := fun j (h : posL a r ≤ j) (h' : j < a.length) => posL_ge (a := a) (r := r) (j := j) ha h h'
  obtain ⟨p, hp⟩ : ∃ p, p = posL a r := ⟨_, rfl⟩
  rw [← hp] at hple hco hlo hhi
  replace hp := hid hp
  replace hlo := hid hlo
  replace hhi := hid hhi
  go_enter Try.func52, Try.ntmps52
  go_wp2_with fail
  with_reducible refine (l1Own_any (w0 := w0) hv').mono ?_
  rintro e w2 ⟨d, m, rfl, own1, e1⟩
  obtain ⟨g, rfl⟩ := own1.at (j := 0) h0
  have ew2 : Ext w w2 := e1
  have e02 : Ext w0 w2 := Ext.trans ‹Ext w0 w› e1
  have own2 : Own w2 w.heap.size [rw1 g a.length m a] := own1
  have hgB : w.heap.size ≤ g := own1.lt.1
  have hl1 : (1 : Int) ≤ (a.length : Int) := by omega
  go_wp2_with fail
  refine (l1Has_any (w0 := w0) hv').mono ?_
  rintro e w2' ⟨rfl, rfl⟩
  by_cases hc : r ∈ a
  · have hcc : hasB a r = true := hasB_true.2 hc
    have hres := hid (show covL a r = a by rw [hco, covAt, if_pos hc])
    have hz := hid (show apL a (covL a r) = 0 by rw [hres.out, apL_self])
    rw [hcc]
    replace hc := hid hc
    replace hco := hid hco
    go_wp2_with fail
    go_ret2
    rw [Cov2Post, hz.out, hres.out]
    exact ⟨_, m, rfl, own1, ew2⟩
  · have hcc : hasB a r = false := hasB_false.2 hc
    rw [hcc]
    rw [covAt, if_neg hc] at hco
    obtain ⟨bA, oA, hdA, hcA⟩ := hv'.at (w' := w2) h0
    cases hdA
    rw [Nat.add_zero] at hcA
    have hb0 := hb _ (nth_mem h0)
    have hne : ∀ j, j < a.length → nth a j ≠ r := fun j hj h => hc (h ▸ nth_mem hj)
    replace hne := hid hne
    replace hc := hid hc
    by_cases hp0 : p = 0
    · rw [if_pos hp0] at hco
      have hlt0 : r < nth a 0 := by
        have h1 := hhi.out 0 (by omega) h0
        have h2 := hne.out 0 h0
        omega
      have hz := hid (show apL a (covL a r) = nth a 0 - r by rw [hco, apL_set1 r h0]; unfold dst; omega)
      replace hco := hid hco
      obtain ⟨c1, f1⟩ := own_at1 own2 rfl h0
      have own3 := own_set1 own2 0 r
      have b3 : Below w.heap.size w (w2.setCell ⟨g, 0, none⟩ (.int .i64 r)) := ew2.below.setCell hgB _
      have e23 : Ext w0 (w2.setCell ⟨g, 0, none⟩ (.int .i64 r)) := ⟨(‹Ext w0 w›).below.trans (b3.mono (‹Ext w0 w›).size)⟩
      obtain ⟨bC, oC, hdC, hcC⟩ := hv'.at (w' := w2.setCell ⟨g, 0, none⟩ (.int .i64 r)) h0
      cases hdC
      rw [Nat.add_zero] at hcC
      obtain ⟨x, hx⟩ : ∃ z, z = nth a 0 := ⟨_, rfl⟩
      rw [← hx] at hcA hb0 hlt0 hz c1 hcC
      replace hx := hid hx
      replace hp0 := hid hp0
      replace b3 := hid b3
      replace own3 := hid own3
      go_wp2_with (go_quiet (fail))
      go_ret2
      rw [Cov2Post, hz.out]
      exact ⟨_, m, rfl, own_in1 (by rw [hco.out]; exact own3.out.ext) (covL_len a r), Ext.trans ⟨b3.out⟩ inferInstance⟩
    · rw [if_neg hp0] at hco
      have hge0 : ¬ r < nth a 0 := by have := hlo.out 0 (by omega); omega
      have hll : a.length - 1 < a.length := by omega
      have hli : ((a.length : Int) - 1).toNat = a.length - 1 := by omega
      have hlb : (a.length : Int) - 1 < (a.length : Int) := by omega
      obtain ⟨bB, oB, hdB, hcB⟩ := hv'.at (w' := w2) hll
      cases hdB
      have hbl := hb _ (nth_mem hll)
      by_cases hpl : p = a.length
      · rw [if_pos hpl, hpl] at hco
        have hgt : nth a (a.length - 1) < r := hlo.out _ (by omega)
        have hz := hid (show apL a (covL a r) = r - nth a (a.length - 1) by rw [hco, apL_set1 r hll]; unfold dst; omega)
        replace hco := hid hco
        obtain ⟨c1, f1⟩ := own_at1 own2 rfl hll
        have own3 := own_set1 own2 (a.length - 1) r
        have b3 : Below w.heap.size w (w2.setCell ⟨g, a.length - 1, none⟩ (.int .i64 r)) := ew2.below.setCell hgB _
        have e23 : Ext w0 (w2.setCell ⟨g, a.length - 1, none⟩ (.int .i64 r)) := ⟨(‹Ext w0 w›).below.trans (b3.mono (‹Ext w0 w›).size)⟩
        obtain ⟨bC, oC, hdC, hcC⟩ := hv'.at (w' := w2.setCell ⟨g, a.length - 1, none⟩ (.int .i64 r)) hll
        cases hdC
        obtain ⟨x, hx⟩ : ∃ z, z = nth a (a.length - 1) := ⟨_, rfl⟩
        rw [← hx] at hcB hbl hgt hz c1 hcC
        replace hx := hid hx
        replace hp0 := hid hp0
        replace hpl := hid hpl
        replace b3 := hid b3
        replace own3 := hid own3
        go_wp2_with (go_quiet (fail))
        go_ret2
        rw [Cov2Post, hz.out]
        exact ⟨_, m, rfl, own_in1 (by rw [hco.out]; exact own3.out.ext) (covL_len a r), Ext.trans ⟨b3.out⟩ inferInstance⟩
      · rw [if_neg hpl] at hco
        have hpn : p < a.length := by omega
        have hng : ¬ nth a (a.length - 1) < r := by have := hhi.out (a.length - 1) (by omega) hll; omega
        obtain ⟨k, hpk⟩ : ∃ k, p = k + 1 := ⟨p - 1, by omega⟩
        have hk1 : k + 1 < a.length := by omega
        have hxl : nth a k < r := hlo.out k (by omega)
        have hyl : r < nth a (k + 1) := by
          have h1 := hhi.out (k + 1) (by omega) hk1
          have h2 := hne.out (k + 1) hk1
          omega
        rw [hpk, Nat.add_sub_cancel] at hco
        obtain ⟨M, hM⟩ : ∃ z, z = min (r - nth a k) (nth a (k + 1) - r) := ⟨_, rfl⟩
        rw [← hM] at hco
        have hMb : 0 ≤ M ∧ M ≤ 2000 := by have q1 := hb _ (nth_mem hk1); have q2 := hb _ (nth_mem (show k < a.length by omega)); rw [hM]; omega
        have hz := hid (show apL a (covL a r) = 2 * M by rw [hco, apL_set2 _ _ hk1]; unfold dst; omega)
        have hmin := hid (show minB id (r - nth a k) (nth a (k + 1) - r) = M by rw [hM]; unfold minB id; split <;> omega)
        replace hco := hid hco
        replace hM := hid hM
        replace hpl := hid hpl
        replace hp0 := hid hp0
        go_wp2_with fail
        go_loopw [8] (fun i wr => wr = w2 ∧ ∃ j : Nat, j ≤ k ∧ i = .int .i64 j) (fun i _ => k - (intOf i).toNat)
        case atStart => exact ⟨rfl, 0, by omega, rfl⟩
        case round =>
          obtain ⟨rfl, j, hj, rfl⟩ := hrel
          have hj1 : j + 1 < a.length := by omega
          obtain ⟨bD, oD, hdD, hcD⟩ := hv'.at (w' := wr) hj1
          cases hdD
          have hji : (j : Int) + 1 < (a.length : Int) := by omega
          have hjt : ((j : Int) + 1).toNat = j + 1 := by omega
          by_cases hjk : j < k
          · have hjl : nth a (j + 1) < r := hlo.out (j + 1) (by omega)
            go_wp2_with fail
            go_roundw
            case rel => exact ⟨by trivial, j + 1, by omega, by go_num⟩
            case measure => simp [intOf]; omega
          · have hjk2 : j = k := by omega
            subst hjk2
            have hjn : ¬ nth a (j + 1) < r := by omega
            have hj0 : j < a.length := by omega
            obtain ⟨bE, oE, hdE, hcE⟩ := hv'.at (w' := wr) hj0
            cases hdE
            have q1 := hb _ (nth_mem hj0)
            have q2 := hb _ (nth_mem hj1)
            have hC := hid (show ∀ u, Calls Try.prog 97 #[.int .i64 (r - nth a j), .int .i64 (nth a (j + 1) - r)] u fun e w' => e = .returned (.int .i64 M) ∧ w' = u from fun u => (l1Least_any _ _ u).mono fun _ _ ⟨h1, h2⟩ => ⟨by rw [h1, hmin.out], h2.symm⟩)
            have hnx := hid (show nth (a.set j (nth a j + M)) (j + 1) = nth a (j + 1) by simp [nth, hj1])
            obtain ⟨x, hx⟩ : ∃ z, z = nth a j := ⟨_, rfl⟩
            obtain ⟨y, hy⟩ : ∃ z, z = nth a (j + 1) := ⟨_, rfl⟩
            rw [← hx] at hcE hxl q1 hC hnx hco
            rw [← hy] at hcD hyl hjn q2 hC hnx hco
            replace hx := hid hx
            replace hy := hid hy
            clear hcA hcB hbl hng hge0 hb0
            go_upto_region 14 with (go_quiet ((go_at_call 97; exact Calls.quiet_of_same (hC.out _))))
            have ed : Ext wr (wr.drewN nq) := inferInstance
            generalize wr.drewN nq = wd at *
            have own3 := own2.ext (w' := wd)
            have ewd : Ext w wd := Ext.trans ew2 ed
            have e0d : Ext w0 wd := Ext.trans e02 ed
            have hcE' := ed.cell hcE
            obtain ⟨c3, f3⟩ := own_at1 own3 rfl hj0
            rw [← hx.out] at c3
            have own4 := own_set1 own3 j (x + M)
            have b4 : Below w.heap.size w (wd.setCell ⟨g, j, none⟩ (.int .i64 (x + M))) := ewd.below.setCell hgB _
            have e04 : Ext w0 (wd.setCell ⟨g, j, none⟩ (.int .i64 (x + M))) := ⟨(‹Ext w0 w›).below.trans (b4.mono (‹Ext w0 w›).size)⟩
            obtain ⟨bF, oF, hdF, hcF⟩ := hv'.at (w' := wd.setCell ⟨g, j, none⟩ (.int .i64 (x + M))) hj1
            cases hdF
            rw [← hy.out] at hcF
            obtain ⟨c4, f4⟩ := own_at1 own4 (by simp) hj1
            rw [hnx.out] at c4
            have own5 := own_set1 own4 (j + 1) (y - M)
            have b5 := b4.setCell (p := ⟨g, j + 1, none⟩) hgB (.int .i64 (y - M))
            rw [← hco.out] at own5
            replace own5 := hid own5
            replace own4 := hid own4
            replace b4 := hid b4
            replace b5 := hid b5
            clear hcE hcD own2 own1
            go_wp2_with fail
            go_ret2
            rw [Cov2Post, hz.out]
            exact ⟨_, m, rfl, own_in1 own5.out (covL_len a r), ⟨b5.out⟩⟩
end Go.Proofs.Ytohjbabjkjcddaa
