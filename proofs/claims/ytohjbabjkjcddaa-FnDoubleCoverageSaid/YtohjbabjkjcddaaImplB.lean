/- The program's search for a detour, IsMetric, IsProblem. -/
import Derived.Test.YtohjbabjkjcddaaImplA
namespace Go.Proofs.Ytohjbabjkjcddaa
open Go.RowKit

theorem ret_tuple2 {a b c d : Value} (h1 : a = c) (h2 : b = d) : Ending.returned (.tuple #[a, b]) = .returned (.tuple #[c, d]) := by rw [h1, h2]

def isNil (xs : List Int) : Bool := decide (xs = [])

set_option maxHeartbeats 1000000 in
set_option maxRecDepth 100000 in
theorem detour_any {v : Value} {M : List (List Int)} {w0 w : World} [Ext w0 w] (hm : IsMet w0 v M) (ht : tableB M = true) :
    Calls Try.prog 114 #[v] w fun e w' => ∃ d m xs, e = .returned (.tuple #[.slice d xs.length m, .bool (!isNil xs)]) ∧ FirstDet M xs ∧ Own w' w.heap.size [intRowOf 3 (.slice d xs.length m) xs] ∧ Ext w w' := by
  obtain ⟨v1, rfl, hM⟩ := hm
  obtain ⟨a, c, rfl, la⟩ := hM.form
  obtain ⟨hl0, hl6⟩ := tableB_len ht
  obtain ⟨b, o, rfl, _⟩ : ∃ b o, a = some ⟨b, o, none⟩ ∧ True := by
    obtain ⟨b, o, _, _, h, _⟩ := hM.at (w' := w0) (k := 0) (by omega)
    exact ⟨b, o, h, trivial⟩
  have hsq := hid (tableB_square ht)
  have HT := hid ht
  clear ht
  go_enter Try.func114, Try.ntmps114
  go_wp2
  go_loopw [12] (fun i wr => ∃ x : Nat, x ≤ M.length ∧ i = .int .i64 x ∧ Hid (∀ x', x' < x → ∀ y', y' < M.length → ∀ z', z' < M.length → detourAt M x' y' z' = false) ∧ Drew (w.alloc (.cells #[.slice (some ⟨b, o, none⟩) M.length c] 34)) wr) (fun i _ => M.length - (intOf i).toNat)
  case atStart => exact ⟨0, by omega, rfl, by intro x hx; omega, Drew.refl _⟩
  case round =>
    obtain ⟨x, hx, rfl, hbx, hd⟩ := hrel
    by_cases hltx : x < M.length
    · have e1 : Ext w wr := Ext.trans inferInstance hd.ext
      have e0 : Ext w0 wr := Ext.trans ‹Ext w0 w› e1
      obtain ⟨d1, p1, m1, hc1, hc2, hall⟩ := hM.cellAt (w' := wr) hsq.out hltx hltx
      clear hc2 hall
      go_wp2
      obtain ⟨wo, rfl⟩ : ∃ wo : World, wo = wr := ⟨_, rfl⟩
      go_loopw [19] (fun i wr => ∃ y : Nat, y ≤ M.length ∧ i = .int .i64 y ∧ Hid (∀ y', y' < y → ∀ z', z' < M.length → detourAt M x y' z' = false) ∧ Drew wo wr) (fun i _ => M.length - (intOf i).toNat)
      case atStart => exact ⟨0, by omega, rfl, by intro x hx; omega, Drew.refl _⟩
      case round =>
        obtain ⟨y, hy, rfl, hby, hd2⟩ := hrel
        by_cases hlty : y < M.length
        · have hc1' := hd2.ext.cell hc1
          have hbox : wr.cell? ⟨w.heap.size, 0, none⟩ = some (.slice (some ⟨b, o, none⟩) M.length c) := (hd.trans hd2).ext.cell (by go_simp)
          have e2 : Ext w0 wr := Ext.trans e0 hd2.ext
          obtain ⟨d1', p1', m1', hq, hc2, hall⟩ := hM.cellAt (w' := wr) hsq.out hltx hlty
          have hq2 := hq.symm.trans hc1'
          simp only [Option.some.injEq, Value.slice.injEq, Addr.mk.injEq, and_true, true_and] at hq2
          obtain ⟨⟨rfl, rfl⟩, rfl⟩ := hq2
          clear hc1' hq
          replace hall := hid hall
          go_wp2
          obtain ⟨wo2, rfl⟩ : ∃ wo : World, wo = wr := ⟨_, rfl⟩
          go_loopw [27] (fun i wr => ∃ z : Nat, z ≤ M.length ∧ i = .int .i64 z ∧ Hid (∀ z', z' < z → detourAt M x y z' = false) ∧ Drew wo2 wr) (fun i _ => M.length - (intOf i).toNat)
          case atStart => exact ⟨0, by omega, rfl, by intro x hx; omega, Drew.refl _⟩
          case round =>
            obtain ⟨z, hz, rfl, hbz, hd3⟩ := hrel
            by_cases hltz : z < M.length
            · have hbox3 := hd3.ext.cell hbox
              have e3 : Ext w0 wr := Ext.trans e2 hd3.ext
              have hc3 := hd3.ext.cell (hall.out z hltz)
              obtain ⟨d2, p2, m2, hc4, hc5, _⟩ := hM.cellAt (w' := wr) hsq.out hlty hltz
              have b1 := tableB_cell HT.out hltx hltz
              have b2 := tableB_cell HT.out hltx hlty
              have b3 := tableB_cell HT.out hlty hltz
              clear hbox hc2 hc1
              by_cases hbad : cell M x y + cell M y z < cell M x z
              · have hdet := hid (show detourAt M x y z = true by simp [detourAt, hbad])
                have e4 : Ext w wr := Ext.trans (Ext.trans e1 hd2.ext) hd3.ext
                go_wp2_with (go_quiet (fail))
                go_ret2
                refine ⟨_, _, [(x : Int), (y : Int), (z : Int)], ret_tuple2 rfl rfl, .inr ⟨x, y, z, hltx, hlty, hltz, hdet.out, rfl, hbx.out, hby.out, hbz.out⟩, ?_, ?_⟩
                · exact Own.litInts (by simpa using e4.size) rfl rfl (by simp) rfl
                · infer_instance
              · have hdet := hid (show detourAt M x y z = false by simp [detourAt, hbad])
                have hbad' : decide (cell M x y + cell M y z < cell M x z) = false := by simpa using hbad
                go_wp2_with (go_quiet (fail))
                go_roundw
                case rel =>
                  refine ⟨z + 1, by omega, by go_num, ?_, hd3.step _⟩
                  intro z' hz'
                  by_cases hzz : z' = z
                  · subst hzz; exact hdet.out
                  · exact hbz.out z' (by omega)
                case measure => simp [intOf]; omega
            · go_wp2
              go_roundw
              case rel =>
                refine ⟨y + 1, by omega, by go_num, ?_, hd2.trans hd3⟩
                intro y' hy' z' hz'
                by_cases hyy : y' = y
                · subst hyy; exact hbz.out z' (by omega)
                · exact hby.out y' (by omega) z' hz'
              case measure => simp [intOf]; omega
        · go_wp2
          go_roundw
          case rel =>
            refine ⟨x + 1, by omega, by go_num, ?_, hd.trans hd2⟩
            intro x' hx' y' hy' z' hz'
            by_cases hxx : x' = x
            · subst hxx; exact hby.out y' (by omega) z' hz'
            · exact hbx.out x' (by omega) y' hy' z' hz'
          case measure => simp [intOf]; omega
    · have e1 : Ext w wr := Ext.trans inferInstance hd.ext
      go_wp2
      go_ret2
      refine ⟨none, 0, [], ret_tuple2 rfl rfl, .inl ⟨fun x' hx' => hbx.out x' (by omega), rfl⟩, ?_, ?_⟩
      · exact (Own.nil _ _).cons_nil _ _
      · exact e1

set_option maxHeartbeats 400000 in
theorem IsMetric_any {v : Value} {M : List (List Int)} {w0 w : World} [Ext w0 w] (hm : IsMet w0 v M) :
    Calls Try.prog 77 #[v] w fun e w' => e = .returned (.bool (metB M)) ∧ Ext w w' := by
  have hm' := hm
  obtain ⟨v1, rfl, hM⟩ := hm
  obtain ⟨a, c, rfl, la⟩ := hM.form
  cases ht : tableB M with
  | false =>
    have hr := hid (show metB M = false by rw [metB, ht]; rfl)
    replace ht := hid ht
    go_enter Try.func77, Try.ntmps77
    go_wp2_with (go_at_call 113; refine (isTable_any (w0 := w0) hm').mono ?_; rw [ht.out]; rintro e w' ⟨rfl, hb⟩)
    go_ret
    exact ⟨ret_bool hr.out.symm, Ext.trans inferInstance hb⟩
  | true =>
    replace ht := hid ht
    go_enter Try.func77, Try.ntmps77
    go_wp2_with fail
    refine (isTable_any (w0 := w0) hm').mono ?_
    rw [ht.out]
    rintro e w1 ⟨rfl, hb1⟩
    have c1 : w1.cell? ⟨w.heap.size, 0, none⟩ = some (.slice a M.length c) := hb1.cell (by go_simp)
    have e1 : Ext w w1 := Ext.trans inferInstance hb1
    have e0 : Ext w0 w1 := Ext.trans ‹Ext w0 w› e1
    go_wp2_with fail
    refine (detour_any (w0 := w0) hm' ht.out).mono ?_
    rintro e w2 ⟨d, m, xs, rfl, hdet, _, hb2⟩
    have e2 : Ext w w2 := Ext.trans e1 hb2
    have hN := hid (NoDetB_of hdet)
    go_wp2_with fail
    go_ret
    exact ⟨ret_bool (by rw [metB, ht.out, hN.out]; rfl), e2⟩

set_option maxHeartbeats 400000 in
theorem sMax_any {v : Value} {xs : List Int} {w0 w : World} [Ext w0 w] (hx : IsInts w0 v xs) (h0 : 0 < xs.length) :
    Calls Try.prog 87 #[v] w fun e w' => ∃ r, e = .returned (.int .i64 r) ∧ r ∈ xs ∧ (∀ x ∈ xs, x ≤ r) ∧ w = w' := by
  obtain ⟨a, c, rfl, la⟩ := hx.form
  obtain ⟨b, o, rfl, hc0⟩ := hx.at (w' := w) h0
  have h1 : decide ((xs.length : Int) < 1) = false := by simp; omega
  rw [Nat.add_zero] at hc0
  go_enter Try.func87, Try.ntmps87
  go_wp2
  go_loop [3, 4] (fun q i => ∃ k : Nat, ∃ r : Int, k ≤ xs.length ∧ 1 ≤ k ∧ i = .int .i64 k ∧ q = .int .i64 r ∧ Hid (r ∈ xs) ∧ Hid (∀ j, j < k → nth xs j ≤ r)) (fun _ i => xs.length - (intOf i).toNat)
  case atStart => exact ⟨1, _, by omega, by omega, rfl, rfl, nth_mem h0, fun j hj => (by rw [show j = 0 by omega]; exact Int.le_refl _)⟩
  case round =>
    obtain ⟨k, r, hk, hk1, rfl, rfl, hr, hle⟩ := hrel
    by_cases hlt : k < xs.length
    · obtain ⟨b', o', hq, hc⟩ := hx.at (w' := w) hlt
      cases hq
      by_cases hg : nth xs k ≤ r
      · go_wp2
        go_round
        case rel =>
          refine ⟨k + 1, r, by omega, by omega, by go_num, by go_num, hr, ?_⟩
          intro j hj
          by_cases hjk : j = k
          · subst hjk; exact hg
          · exact hle.out j (by omega)
        case measure => simp [intOf]; omega
      · go_wp2
        go_round
        case rel =>
          refine ⟨k + 1, nth xs k, by omega, by omega, by go_num, by go_num, nth_mem hlt, ?_⟩
          intro j hj
          by_cases hjk : j = k
          · subst hjk; exact Int.le_refl _
          · have := hle.out j (by omega)
            omega
        case measure => simp [intOf]; omega
    · go_wp2
      go_ret
      refine ⟨r, rfl, hr.out, ?_, rfl⟩
      intro x hx'
      obtain ⟨j, hj, rfl⟩ := mem_iff_nth.1 hx'
      exact hle.out j (by omega)

theorem costs_any (costs : List Int) : costs.any (fun c => !inB c (-1) 20) = !costsOk costs := by
  rw [Bool.eq_iff_iff, Bool.not_eq_true', List.any_eq_true]
  constructor
  · rintro ⟨c, hc, h⟩
    obtain ⟨k, hk, rfl⟩ := mem_iff_nth.1 hc
    exact costsOk_not hk (by simpa using h)
  · intro h
    apply Classical.byContradiction
    intro h2
    have : costsOk costs = true := by
      simp only [costsOk, decide_eq_true_eq]
      intro c hc
      apply Classical.byContradiction
      intro h3
      exact h2 ⟨c, hc, by rw [inB_false.2 h3]; rfl⟩
    rw [this] at h
    cases h

theorem reqs_any (n : Int) (S : List (List Int)) : (!S.any fun r => !reqB n r) = decide (∀ r ∈ S, reqB n r = true) := by
  rw [List.not_any_eq_all_not, Bool.eq_iff_iff, decide_eq_true_eq, List.all_eq_true]
  simp

end Go.Proofs.Ytohjbabjkjcddaa
