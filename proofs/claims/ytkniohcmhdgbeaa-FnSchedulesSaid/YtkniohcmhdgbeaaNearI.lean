/- NextWork of the program. Written by neari.py. -/
import Derived.Test.YtkniohcmhdgbeaaNear
namespace Go.Proofs.Ytkniohcmhdgbeaa
open Go.RowKit

set_option maxHeartbeats 1600000 in
set_option maxRecDepth 100000 in
theorem implNW_any {v vX : Value} {M S : List (List Int)} {q : Int} {X : List Int} {w0 w : World} [Ext w0 w] (hp : IsProb w0 v M S) (hX : IsInts w0 vX X) (_hq : I64 q) :
    Calls Try.prog 22 #[v, vX, .int .i64 q] w fun e w' => ∃ d0 m0, e = .returned (.tuple #[.slice d0 (nwR M S X q).length m0, .bool (nwB M S X q)]) ∧ Own w' w.heap.size ([intRowOf 3 (.slice d0 (nwR M S X q).length m0) (nwR M S X q)]) ∧ Ext w w' := by
  have hp' := hp
  obtain ⟨v1, v2, rfl, hM, hS⟩ := hp
  have hM' := hM
  have hS' := hS
  obtain ⟨a1, c1, rfl, l1⟩ := hM.form
  obtain ⟨a2, c2, rfl, l2⟩ := hS.form
  have hX' := hX
  obtain ⟨aX, cX, rfl, lX⟩ := hX.form
  cases hB0 : probB M S with
  | false =>
    have hr := hid (nwB_prob (ws := X) (q := q) hB0)
    have hz := hid (nwR_false hr.out)
    replace hB0 := hid hB0
    go_enter Try.func22, Try.ntmps22
    go_wp2_with fail
    refine (IsProblem_any (w0 := w0) hp').mono ?_; rw [hB0.out]; rintro e w1 ⟨rfl, hb1⟩
    have x0 : w1.cell? ⟨w.heap.size, 0, none⟩ = some (.slice a1 M.length c1) := hb1.cell (by go_simp)
    have x1 : w1.cell? ⟨w.heap.size, 1, none⟩ = some (.slice a2 S.length c2) := hb1.cell (by go_simp)
    have e1 : Ext w w1 := Ext.trans inferInstance hb1
    have e0 : Ext w0 w1 := Ext.trans ‹Ext w0 w› e1
    clear hb1
    go_wp2_with fail
    go_ret2
    rw [hz.out, hr.out]
    exact ⟨_, _, rfl, own_nils_i _ _, Ext.trans e1 inferInstance⟩
  | true =>
    have hC0 := hid hB0
    replace hB0 := hid hB0
    cases hB1 : inB q 0 ((S.length : Int) - 1) with
    | false =>
      have hr := hid (nwB_req (M := M) (ws := X) hB1)
      have hz := hid (nwR_false hr.out)
      replace hB1 := hid hB1
      go_enter Try.func22, Try.ntmps22
      go_wp2_with fail
      refine (IsProblem_any (w0 := w0) hp').mono ?_; rw [hB0.out]; rintro e w1 ⟨rfl, hb1⟩
      have x0 : w1.cell? ⟨w.heap.size, 0, none⟩ = some (.slice a1 M.length c1) := hb1.cell (by go_simp)
      have x1 : w1.cell? ⟨w.heap.size, 1, none⟩ = some (.slice a2 S.length c2) := hb1.cell (by go_simp)
      have e1 : Ext w w1 := Ext.trans inferInstance hb1
      have e0 : Ext w0 w1 := Ext.trans ‹Ext w0 w› e1
      clear hb1
      go_wp2_with fail
      refine (isRequest_any hM' hS').mono ?_; rw [hB1.out]; rintro e w2 ⟨rfl, hb2⟩
      replace x0 := hb2.cell x0
      replace x1 := hb2.cell x1
      replace e1 : Ext w w2 := Ext.trans e1 hb2
      replace e0 : Ext w0 w2 := Ext.trans ‹Ext w0 w› e1
      clear hb2
      go_wp2_with fail
      go_ret2
      rw [hz.out, hr.out]
      exact ⟨_, _, rfl, own_nils_i _ _, Ext.trans e1 inferInstance⟩
    | true =>
      have hC1 := hid hB1
      replace hB1 := hid hB1
      by_cases hl : X.length = M.length
      · have hl' : ((X.length : Int) != M.length) = false := by simp [hl]
        replace hl := hid hl
        cases hB3 : belowB 100001 X with
        | false =>
          have hr := hid (nwB_near (S := S) (q := q) (nearB_small (M := M) hB3))
          have hz := hid (nwR_false hr.out)
          replace hB3 := hid hB3
          go_enter Try.func22, Try.ntmps22
          go_wp2_with fail
          refine (IsProblem_any (w0 := w0) hp').mono ?_; rw [hB0.out]; rintro e w1 ⟨rfl, hb1⟩
          have x0 : w1.cell? ⟨w.heap.size, 0, none⟩ = some (.slice a1 M.length c1) := hb1.cell (by go_simp)
          have x1 : w1.cell? ⟨w.heap.size, 1, none⟩ = some (.slice a2 S.length c2) := hb1.cell (by go_simp)
          have e1 : Ext w w1 := Ext.trans inferInstance hb1
          have e0 : Ext w0 w1 := Ext.trans ‹Ext w0 w› e1
          clear hb1
          go_wp2_with fail
          refine (isRequest_any hM' hS').mono ?_; rw [hB1.out]; rintro e w2 ⟨rfl, hb2⟩
          replace x0 := hb2.cell x0
          replace x1 := hb2.cell x1
          replace e1 : Ext w w2 := Ext.trans e1 hb2
          replace e0 : Ext w0 w2 := Ext.trans ‹Ext w0 w› e1
          clear hb2
          go_wp2_with fail
          refine (areBelow_any (w0 := w0) hX' (by omega) (by omega)).mono ?_; rw [hB3.out]; rintro e w3 ⟨rfl, hb3⟩
          replace x0 := hb3.cell x0
          replace x1 := hb3.cell x1
          replace e1 : Ext w w3 := Ext.trans e1 hb3
          replace e0 : Ext w0 w3 := Ext.trans ‹Ext w0 w› e1
          clear hb3
          go_wp2_with fail
          go_ret2
          rw [hz.out, hr.out]
          exact ⟨_, _, rfl, own_nils_i _ _, Ext.trans e1 inferInstance⟩
        | true =>
          have hC3 := hid hB3
          replace hB3 := hid hB3
          have hsq := hid (tableB_square (probB_table hC0.out))
          have hbd := hid (fun j (hj : j < X.length) => belowB_at hC3.out hj)
          go_enter Try.func22, Try.ntmps22
          go_wp2_with fail
          refine (IsProblem_any (w0 := w0) hp').mono ?_; rw [hB0.out]; rintro e w1 ⟨rfl, hb1⟩
          have x0 : w1.cell? ⟨w.heap.size, 0, none⟩ = some (.slice a1 M.length c1) := hb1.cell (by go_simp)
          have x1 : w1.cell? ⟨w.heap.size, 1, none⟩ = some (.slice a2 S.length c2) := hb1.cell (by go_simp)
          have e1 : Ext w w1 := Ext.trans inferInstance hb1
          have e0 : Ext w0 w1 := Ext.trans ‹Ext w0 w› e1
          clear hb1
          go_wp2_with fail
          refine (isRequest_any hM' hS').mono ?_; rw [hB1.out]; rintro e w2 ⟨rfl, hb2⟩
          replace x0 := hb2.cell x0
          replace x1 := hb2.cell x1
          replace e1 : Ext w w2 := Ext.trans e1 hb2
          replace e0 : Ext w0 w2 := Ext.trans ‹Ext w0 w› e1
          clear hb2
          go_wp2_with fail
          refine (areBelow_any (w0 := w0) hX' (by omega) (by omega)).mono ?_; rw [hB3.out]; rintro e w3 ⟨rfl, hb3⟩
          replace x0 := hb3.cell x0
          replace x1 := hb3.cell x1
          replace e1 : Ext w w3 := Ext.trans e1 hb3
          replace e0 : Ext w0 w3 := Ext.trans ‹Ext w0 w› e1
          clear hb3
          go_wp2_with fail
          go_loopw [36] (fun i wi => ∃ s : Nat, s ≤ X.length ∧ i = .int .i64 s ∧ Hid (∀ a, a < s → ∀ b, b < X.length → nearAt M X a b = true) ∧ Drew w3 wi) (fun i _ => X.length - (intOf i).toNat)
          case atStart => exact ⟨0, by omega, rfl, by intro j hj; omega, Drew.refl _⟩
          case round =>
            obtain ⟨s, hs, rfl, hok, hd2⟩ := hrel
            obtain ⟨wb, rfl⟩ : ∃ x : World, x = wr := ⟨_, rfl⟩
            have z0 := hd2.ext.cell x0
            have z1 := hd2.ext.cell x1
            have e3 : Ext w wb := Ext.trans e1 hd2.ext
            have e33 : Ext w0 wb := Ext.trans ‹Ext w0 w› e3
            by_cases hlts : s < X.length
            · obtain ⟨b3, o3, rfl, hc3⟩ := hX.at (w' := wb) hlts
              go_wp2
              go_loopw [43] (fun i wi => ∃ t : Nat, t ≤ X.length ∧ i = .int .i64 t ∧ Hid (∀ b, b < t → nearAt M X s b = true) ∧ Drew wb wi) (fun i _ => X.length - (intOf i).toNat)
              case atStart => exact ⟨0, by omega, rfl, by intro j hj; omega, Drew.refl _⟩
              case round =>
                obtain ⟨t, ht, rfl, hok2, hd3⟩ := hrel
                have u0 := hd3.ext.cell z0
                have u1 := hd3.ext.cell z1
                have e4 : Ext w wr := Ext.trans e3 hd3.ext
                have e5 : Ext w0 wr := Ext.trans ‹Ext w0 w› e4
                by_cases hltt : t < X.length
                · have htM : t < M.length := by have := hl.out; omega
                  have hsM : s < M.length := by have := hl.out; omega
                  obtain ⟨b4, o4, hq4, hc4⟩ := hX.at (w' := wr) hltt
                  cases hq4
                  obtain ⟨b5, o5, d5, m5, rfl, hc5, hr5, _⟩ := hM.at (w' := wr) htM
                  have hl5 := square_row hsq.out htM
                  rw [hl5] at hr5 hc5
                  replace hl5 := hid hl5
                  obtain ⟨b6, o6, rfl, hc6⟩ := hr5.at (w' := wr) (k := s) (by rw [hl5.out]; exact hsM)
                  have hc6' : wr.cell? ⟨b6, o6 + s, none⟩ = some (.int .i64 (cell M t s)) := hc6
                  clear hc6
                  have q1 := hbd.out t hltt
                  have q3 := probB_move hC0.out htM hsM
                  by_cases hle : nth X s ≤ nth X t + cell M t s
                  · have hgood := hid (show nearAt M X s t = true from decide_eq_true hle)
                    have hle' : decide (nth X t + cell M t s < nth X s) = false := by simp; omega
                    go_wp2_with (go_quiet (fail))
                    go_roundw
                    case rel =>
                      refine ⟨t + 1, by omega, by go_num, ?_, hd3⟩
                      intro j hj
                      by_cases hjk : j = t
                      · subst hjk; exact hgood.out
                      · exact hok2.out j (by omega)
                    case measure => simp [intOf]; omega
                  · have hr := hid (nwB_near (S := S) (q := q) (nearB_at hlts hltt (show nearAt M X s t = false from decide_eq_false hle)))
                    have hz := hid (nwR_false hr.out)
                    have hle' : decide (nth X t + cell M t s < nth X s) = true := by simp; omega
                    go_wp2_with (go_quiet (fail))
                    go_ret2
                    rw [hz.out, hr.out]
                    exact ⟨_, _, rfl, own_nils_i _ _, Ext.trans e4 inferInstance⟩
                · go_wp2
                  go_roundw
                  case rel =>
                    refine ⟨s + 1, by omega, by go_num, ?_, hd2.trans hd3⟩
                    intro j hj b hb
                    by_cases hjk : j = s
                    · subst hjk; exact hok2.out b (by omega)
                    · exact hok.out j (by omega) b hb
                  case measure => simp [intOf]; omega
            · have hC4 := hid (nearB_true hl.out hC3.out (fun a ha b hb => hok.out a (by omega) b hb))
              have hok4 := hid (nwB_true hC0.out hC1.out hC4.out)
              have hv0 := hid (nwR_true hok4.out)
              have hq := inB_true.1 hC1.out
              obtain ⟨r, hr'⟩ := Int.eq_ofNat_of_zero_le hq.1
              have hrS : r < S.length := by omega
              clear hq
              subst hr'
              rw [Int.toNat_natCast] at hv0
              have hok2 := hid (nearB_ok hC4.out)
              go_wp2_with fail
              refine (nextWork_any (w0 := w0) hM' hS' hX' hC0.out hok2.out (by omega) hrS).mono ?_
              rintro e w4 ⟨d, m, rfl, own, hb⟩
              rw [← hv0.out] at own ⊢
              go_wp2_with fail
              go_ret2
              rw [hok4.out]
              exact ⟨_, _, rfl, own.mono e3.size, Ext.trans e3 hb⟩
      · have hl' : ((X.length : Int) != M.length) = true := by simp; omega
        have hr := hid (nwB_near (S := S) (q := q) (nearB_len hl))
        have hz := hid (nwR_false hr.out)
        replace hl := hid hl
        go_enter Try.func22, Try.ntmps22
        go_wp2_with fail
        refine (IsProblem_any (w0 := w0) hp').mono ?_; rw [hB0.out]; rintro e w1 ⟨rfl, hb1⟩
        have x0 : w1.cell? ⟨w.heap.size, 0, none⟩ = some (.slice a1 M.length c1) := hb1.cell (by go_simp)
        have x1 : w1.cell? ⟨w.heap.size, 1, none⟩ = some (.slice a2 S.length c2) := hb1.cell (by go_simp)
        have e1 : Ext w w1 := Ext.trans inferInstance hb1
        have e0 : Ext w0 w1 := Ext.trans ‹Ext w0 w› e1
        clear hb1
        go_wp2_with fail
        refine (isRequest_any hM' hS').mono ?_; rw [hB1.out]; rintro e w2 ⟨rfl, hb2⟩
        replace x0 := hb2.cell x0
        replace x1 := hb2.cell x1
        replace e1 : Ext w w2 := Ext.trans e1 hb2
        replace e0 : Ext w0 w2 := Ext.trans ‹Ext w0 w› e1
        clear hb2
        go_wp2_with fail
        go_ret2
        rw [hz.out, hr.out]
        exact ⟨_, _, rfl, own_nils_i _ _, Ext.trans e1 inferInstance⟩

end Go.Proofs.Ytkniohcmhdgbeaa
