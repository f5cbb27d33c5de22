/- ScheduleCost of the reference and of the program. -/
import Derived.Test.YtkniohcmhdgbeaaSched
import Derived.Deep.RegionWith
import Derived.Deep.Cut
import Derived.Deep.DeepCutAuto
namespace Go.Proofs.Ytkniohcmhdgbeaa
open Go.RowKit

theorem schedB_start {M S : List (List Int)} {start : Int} {reqs states : List Int} (h : startB M S start reqs = false) : schedB M S start reqs states = false := by rw [schedB, h]; rfl
theorem schedB_len {M S : List (List Int)} {start : Int} {reqs states : List Int} (h : ¬ states.length = reqs.length) : schedB M S start reqs states = false := by simp [schedB, h]
theorem schedB_at {M S : List (List Int)} {start : Int} {reqs states : List Int} {k : Nat} (hk : k < states.length) (h : stOk M S (nth reqs k).toNat (nth states k) = false) : schedB M S start reqs states = false := by
  have : ¬ okTo M S reqs states states.length := fun h' => by rw [h' k hk] at h; cases h
  simp [schedB, this]
theorem schedB_true {M S : List (List Int)} {start : Int} {reqs states : List Int} (h : startB M S start reqs = true) (hl : states.length = reqs.length) (hok : okTo M S reqs states states.length) : schedB M S start reqs states = true := by
  simp [schedB, h, hl]; rw [← hl]; exact hok
theorem schedR_false {M S : List (List Int)} {start : Int} {reqs states : List Int} (h : schedB M S start reqs states = false) : schedR M S start reqs states = 0 := by simp [schedR, h]
theorem schedR_true {M S : List (List Int)} {start : Int} {reqs states : List Int} (h : schedB M S start reqs states = true) : schedR M S start reqs states = sumTo M S start reqs states states.length := by simp [schedR, h]
theorem ret_ib {a c : Int} {b d : Bool} (h1 : a = c) (h2 : b = d) : Ending.returned (.tuple #[.int .i64 a, .bool b]) = .returned (.tuple #[.int .i64 c, .bool d]) := by rw [h1, h2]

set_option maxHeartbeats 1600000 in
set_option maxRecDepth 100000 in
theorem specSched_any {v v3 v4 : Value} {M S : List (List Int)} {start : Int} {reqs states : List Int} {w0 w : World} [Ext w0 w] (hp : IsProb w0 v M S) (_h : I64 start) (hx : IsInts w0 v3 reqs) (hy : IsInts w0 v4 states) :
    Calls Try.prog 16 #[v, .int .i64 start, v3, v4] w fun e w' => e = .returned (.tuple #[.int .i64 (schedR M S start reqs states), .bool (schedB M S start reqs states)]) ∧ Ext w w' := by
  have hp' := hp
  have hx' := hx
  have hy' := hy
  obtain ⟨v1, v2, rfl, hM, hS⟩ := hp
  have hM' := hM
  have hS' := hS
  obtain ⟨a1, c1, rfl, l1⟩ := hM.form
  obtain ⟨a2, c2, rfl, l2⟩ := hS.form
  obtain ⟨a3, c3, rfl, l3⟩ := hx.form
  obtain ⟨a4, c4, rfl, l4⟩ := hy.form
  cases hB : startB M S start reqs with
  | false =>
    have hr := hid (schedB_start (states := states) hB)
    replace hB := hid hB
    go_enter Try.func16, Try.ntmps16
    go_wp2_with fail
    refine (l8Takes_any (w0 := w0) hp' hx').mono ?_; rw [hB.out]; rintro e w1 ⟨rfl, hb1⟩
    go_wp2_with fail
    go_ret2
    exact ⟨ret_ib (schedR_false hr.out).symm hr.out.symm, Ext.trans inferInstance hb1⟩
  | true =>
    by_cases hl : states.length = reqs.length
    · have hl' : ((states.length : Int) != reqs.length) = false := by simp [hl]
      have hB' := hid hB
      replace hB := hid hB
      replace hl := hid hl
      have hp3 := hid (startB_prob hB.out)
      go_enter Try.func16, Try.ntmps16
      go_wp2_with fail
      refine (l8Takes_any (w0 := w0) hp' hx').mono ?_; rw [hB.out]; rintro e w1 ⟨rfl, hb1⟩
      have x0 : w1.cell? ⟨w.heap.size, 0, none⟩ = some (.slice a1 M.length c1) := hb1.cell (by go_simp)
      have x1 : w1.cell? ⟨w.heap.size, 1, none⟩ = some (.slice a2 S.length c2) := hb1.cell (by go_simp)
      have e1 : Ext w w1 := Ext.trans inferInstance hb1
      clear hb1
      go_wp2_with fail
      go_loopw [10] (fun i wr => ∃ k : Nat, k ≤ states.length ∧ i = .int .i64 k ∧ Hid (okTo M S reqs states k) ∧ Drew w1 wr) (fun i _ => states.length - (intOf i).toNat)
      case atStart => exact ⟨0, by omega, rfl, by intro r hr; omega, Drew.refl _⟩
      case round =>
        obtain ⟨k, hk, rfl, hok, hd⟩ := hrel
        have y0 := hd.ext.cell x0
        have y1 := hd.ext.cell x1
        have e2 : Ext w wr := Ext.trans e1 hd.ext
        have e0 : Ext w0 wr := Ext.trans ‹Ext w0 w› e2
        by_cases hlt : k < states.length
        · have hltr : k < reqs.length := by have := hl.out; omega
          obtain ⟨b4, o4, rfl, hc4⟩ := hy.at (w' := wr) hlt
          obtain ⟨b3, o3, rfl, hc3⟩ := hx.at (w' := wr) hltr
          have hrq := startB_req hB.out hltr
          obtain ⟨r, hr'⟩ := Int.eq_ofNat_of_zero_le hrq.1
          have hrn : r < S.length := by have := hrq.2; omega
          clear hrq
          have hrow := hid (probB_row hp3.out hrn).1
          rw [hr'] at hc3
          replace hr' := hid hr'
          cases hin : inB (nth states k) 0 (M.length - 1) with
          | false =>
            have hE : ∀ n, Calls Try.prog 46 #[.int .i64 (nth states k), .int .i64 0, .int .i64 ((M.length : Int) - 1)] (wr.drewN n) fun e w' => e = .returned (.bool false) ∧ ∃ m, w' = wr.drewN m :=
              fun n => (l1In_any _ _ _ _).mono fun e w' ⟨h1, h2⟩ => ⟨by rw [h1, hin], n, h2.symm⟩
            have hfin := hid (schedB_at (M := M) (S := S) (start := start) (reqs := reqs) hlt (by rw [stOk, hin]; rfl))
            replace hin := hid hin
            go_wp2_with (go_quiet ((go_at_call 46; exact hE _)))
            go_ret2
            exact ⟨ret_ib (schedR_false hfin.out).symm hfin.out.symm, Ext.trans e1 (hd.step _).ext⟩
          | true =>
            have hst1 := stOk_lt hin
            obtain ⟨s, hs⟩ := Int.eq_ofNat_of_zero_le hst1.1
            have hsn : s < M.length := by have := hst1.2; rw [hs, Int.toNat_natCast] at this; exact this
            obtain ⟨b7, o7, d7, m7, rfl, hc7, hr7, _⟩ := hS.at (w' := wr) hrn
            rw [hrow.out] at hr7 hc7
            obtain ⟨b8, o8, rfl, hc8⟩ := hr7.at (w' := wr) (k := s) (by rw [hrow.out]; exact hsn)
            have hc8' : wr.cell? ⟨b8, o8 + s, none⟩ = some (.int .i64 (cell S r s)) := hc8
            clear hc8
            by_cases hge : 0 ≤ cell S r s
            · have hgood := hid (show stOk M S (nth reqs k).toNat (nth states k) = true by rw [stOk, hin, hs, hr'.out, Int.toNat_natCast, Int.toNat_natCast, decide_eq_true hge]; rfl)
              have hge' : decide (cell S r s < 0) = false := by simpa using hge
              rw [hs] at hin hc4
              have hE : ∀ n, Calls Try.prog 46 #[.int .i64 (s : Int), .int .i64 0, .int .i64 ((M.length : Int) - 1)] (wr.drewN n) fun e w' => e = .returned (.bool true) ∧ ∃ m, w' = wr.drewN m :=
                fun n => (l1In_any _ _ _ _).mono fun e w' ⟨h1, h2⟩ => ⟨by rw [h1, hin], n, h2.symm⟩
              replace hin := hid hin
              replace hs := hid hs
              go_wp2_with (go_quiet ((go_at_call 46; exact hE _)))
              go_roundw
              case rel =>
                refine ⟨k + 1, by omega, by go_num, ?_, hd.step _⟩
                intro q hq
                by_cases hqk : q = k
                · subst hqk; exact hgood.out
                · exact hok.out q (by omega)
              case measure => simp [intOf]; omega
            · have hfin := hid (schedB_at (M := M) (S := S) (start := start) (reqs := reqs) hlt (by rw [stOk, hin, hs, hr'.out, Int.toNat_natCast, Int.toNat_natCast, decide_eq_false hge]; rfl))
              have hge' : decide (cell S r s < 0) = true := by simp; omega
              rw [hs] at hin hc4
              have hE : ∀ n, Calls Try.prog 46 #[.int .i64 (s : Int), .int .i64 0, .int .i64 ((M.length : Int) - 1)] (wr.drewN n) fun e w' => e = .returned (.bool true) ∧ ∃ m, w' = wr.drewN m :=
                fun n => (l1In_any _ _ _ _).mono fun e w' ⟨h1, h2⟩ => ⟨by rw [h1, hin], n, h2.symm⟩
              replace hin := hid hin
              replace hs := hid hs
              go_wp2_with (go_quiet ((go_at_call 46; exact hE _)))
              go_ret2
              exact ⟨ret_ib (schedR_false hfin.out).symm hfin.out.symm, Ext.trans e1 (hd.step _).ext⟩
        · have hkl : k = states.length := by omega
          have hfull := hid (hkl ▸ hok.out : okTo M S reqs states states.length)
          have ht := hid (schedB_true hB.out hl.out hfull.out)
          have hv := hid (schedR_true ht.out)
          clear hkl
          go_wp2_with (go_at_call 53; refine (l8Sum_any (w0 := w0) hM' hS' hx' hy' hB'.out hl.out hfull.out).mono ?_; rintro e w2 ⟨rfl, hb2⟩)
          go_ret2
          exact ⟨ret_ib hv.out.symm ht.out.symm, Ext.trans e2 hb2⟩
    · have hl' : ((states.length : Int) != reqs.length) = true := by simp; omega
      have hr := hid (schedB_len (M := M) (S := S) (start := start) hl)
      replace hB := hid hB
      replace hl := hid hl
      go_enter Try.func16, Try.ntmps16
      go_wp2_with fail
      refine (l8Takes_any (w0 := w0) hp' hx').mono ?_; rw [hB.out]; rintro e w1 ⟨rfl, hb1⟩
      go_wp2_with fail
      go_ret2
      exact ⟨ret_ib (schedR_false hr.out).symm hr.out.symm, Ext.trans inferInstance hb1⟩

end Go.Proofs.Ytkniohcmhdgbeaa
