/- NextWork of the reference and of the program. Written by nears.py. -/
import Derived.Test.YtbclgdajgaljkaaWorkW
namespace Go.Proofs.Ytbclgdajgaljkaa
open Go.RowKit

def nearAt (M : List (List Int)) (ws : List Int) (s t : Nat) : Bool := decide (nth ws s ≤ nth ws t + cell M t s)
def nearB (M : List (List Int)) (ws : List Int) : Bool := decide (ws.length = M.length) && belowB 100001 ws && decide (∀ s, s < ws.length → ∀ t, t < ws.length → nearAt M ws s t = true)
theorem nearB_len {M : List (List Int)} {ws : List Int} (h : ¬ ws.length = M.length) : nearB M ws = false := by simp [nearB, h]
theorem nearB_small {M : List (List Int)} {ws : List Int} (h : belowB 100001 ws = false) : nearB M ws = false := by simp [nearB, h]
theorem nearB_at {M : List (List Int)} {ws : List Int} {s t : Nat} (hs : s < ws.length) (ht : t < ws.length) (h : nearAt M ws s t = false) : nearB M ws = false := by
  rw [nearB, Bool.and_eq_false_iff]
  refine .inr (decide_eq_false fun h' => ?_)
  rw [h' s hs t ht] at h
  cases h
theorem nearB_true {M : List (List Int)} {ws : List Int} (h1 : ws.length = M.length) (h2 : belowB 100001 ws = true) (h3 : ∀ s, s < ws.length → ∀ t, t < ws.length → nearAt M ws s t = true) : nearB M ws = true := by
  rw [nearB, decide_eq_true h1, h2, decide_eq_true h3]; rfl
theorem nearB_ok {M : List (List Int)} {ws : List Int} (h : nearB M ws = true) : wOk M ws 100000 := by
  simp only [nearB, Bool.and_eq_true, decide_eq_true_eq] at h
  refine ⟨h.1.1, fun s hs => ?_⟩
  have := belowB_at h.1.2 (k := s) (by rw [h.1.1]; exact hs)
  omega
def nwB (M S : List (List Int)) (ws : List Int) (q : Int) : Bool := probB M S && inB q 0 ((S.length : Int) - 1) && nearB M ws
def nwR (M S : List (List Int)) (ws : List Int) (q : Int) : List Int := if nwB M S ws q = true then nextL M S ws q.toNat else []
theorem nwB_prob {M S : List (List Int)} {ws : List Int} {q : Int} (h : probB M S = false) : nwB M S ws q = false := by simp [nwB, h]
theorem nwB_req {M S : List (List Int)} {ws : List Int} {q : Int} (h : inB q 0 ((S.length : Int) - 1) = false) : nwB M S ws q = false := by simp [nwB, h]
theorem nwB_near {M S : List (List Int)} {ws : List Int} {q : Int} (h : nearB M ws = false) : nwB M S ws q = false := by simp [nwB, h]
theorem nwB_true {M S : List (List Int)} {ws : List Int} {q : Int} (h1 : probB M S = true) (h2 : inB q 0 ((S.length : Int) - 1) = true) (h3 : nearB M ws = true) : nwB M S ws q = true := by rw [nwB, h1, h2, h3]; rfl
theorem nwR_false {M S : List (List Int)} {ws : List Int} {q : Int} (h : nwB M S ws q = false) : nwR M S ws q = [] := by simp [nwR, h]
theorem nwR_true {M S : List (List Int)} {ws : List Int} {q : Int} (h : nwB M S ws q = true) : nwR M S ws q = nextL M S ws q.toNat := by simp [nwR, h]
theorem nwR_len {M S : List (List Int)} {ws : List Int} {q : Int} : (nwR M S ws q).length ≤ 4000000 := by
  unfold nwR
  split
  · rename_i h
    simp only [nwB, Bool.and_eq_true] at h
    have h1 := (nearB_ok h.2).1
    have h2 := probB_len h.1.1
    rw [nextL_length]
    omega
  · simp

set_option maxHeartbeats 400000 in
theorem isRequest_any {v1 v2 : Value} {M S : List (List Int)} {s : Int} {w0 w : World} (hM : IsRows w0 v1 M) (hS : IsRows w0 v2 S) :
    Calls Try.prog 89 #[.agg #[v1, v2], .int .i64 s] w fun e w' => e = .returned (.bool (inB s 0 (S.length - 1))) ∧ Ext w w' := by
  obtain ⟨a1, c1, rfl, l1⟩ := hM.form
  obtain ⟨a2, c2, rfl, l2⟩ := hS.form
  go_enter Try.func89, Try.ntmps89
  go_wp2_with (go_at_call 62; refine (within_any _ _ _ _).mono ?_; rintro e w' ⟨rfl, rfl⟩)
  go_ret
  exact ⟨rfl, inferInstance⟩
theorem l1In_ext (a lo hi : Int) {w : World} : Calls Try.prog 75 #[.int .i64 a, .int .i64 lo, .int .i64 hi] w fun e w' => e = .returned (.bool (inB a lo hi)) ∧ Ext w w' := by
  refine (l1In_any _ _ _ _).mono ?_
  rintro e w' ⟨rfl, rfl⟩
  exact ⟨rfl, Ext.refl _⟩

set_option maxHeartbeats 1600000 in
set_option maxRecDepth 100000 in
theorem l8Near_any {v1 v2 v3 : Value} {M S : List (List Int)} {ws : List Int} {w0 w : World} [Ext w0 w] (hM : IsRows w0 v1 M) (hS : IsRows w0 v2 S) (hx : IsInts w0 v3 ws) (hp : probB M S = true) :
    Calls Try.prog 87 #[.agg #[v1, v2], v3] w fun e w' => e = .returned (.bool (nearB M ws)) ∧ Ext w w' := by
  obtain ⟨a1, c1, rfl, l1⟩ := hM.form
  obtain ⟨a2, c2, rfl, l2⟩ := hS.form
  obtain ⟨a3, c3, rfl, l3⟩ := hx.form
  have hsq := hid (tableB_square (probB_table hp))
  replace hp := hid hp
  by_cases hl : ws.length = M.length
  · have hl' : ((ws.length : Int) != M.length) = false := by simp [hl]
    replace hl := hid hl
    go_enter Try.func87, Try.ntmps87
    go_upto_region 1 with fail
    generalize hW : (w.alloc (.cells #[.slice a1 M.length c1, .slice a2 S.length c2] 27)) = W
    have eW : Ext w W := hW ▸ inferInstance
    have x0 : W.cell? ⟨w.heap.size, 0, none⟩ = some (.slice a1 M.length c1) := by subst hW; go_simp
    have x1 : W.cell? ⟨w.heap.size, 1, none⟩ = some (.slice a2 S.length c2) := by subst hW; go_simp
    clear hW
    go_wp2
    go_loopw [5] (fun i wr => ∃ k : Nat, k ≤ ws.length ∧ i = .int .i64 k ∧ Hid (∀ j, j < k → inB (nth ws j) 0 100000 = true) ∧ Drew W wr) (fun i _ => ws.length - (intOf i).toNat)
    case atStart => exact ⟨0, by omega, rfl, by intro j hj; omega, Drew.refl _⟩
    case round =>
      obtain ⟨k, hk, rfl, hok, hd⟩ := hrel
      have y0 := hd.ext.cell x0
      have e1 : Ext w wr := Ext.trans eW hd.ext
      have e0 : Ext w0 wr := Ext.trans ‹Ext w0 w› e1
      by_cases hlt : k < ws.length
      · obtain ⟨b3, o3, rfl, hc3⟩ := hx.at (w' := wr) hlt
        cases hin : inB (nth ws k) 0 100000 with
        | false =>
          have hfin := hid (nearB_small (M := M) (belowB_not (n := 100001) hlt hin))
          replace hin := hid hin
          go_wp2_with (go_at_call 75; refine (l1In_any _ _ _ _).mono ?_; rw [hin.out]; rintro e w1 ⟨rfl, rfl⟩)
          go_ret
          exact ⟨ret_bool hfin.out.symm, e1⟩
        | true =>
          replace hin := hid hin
          go_wp2_with (go_at_call 75; refine (l1In_any _ _ _ _).mono ?_; rw [hin.out]; rintro e w1 ⟨rfl, rfl⟩)
          go_roundw
          case rel =>
            refine ⟨k + 1, by omega, by go_num, ?_, hd⟩
            intro j hj
            by_cases hjk : j = k
            · subst hjk; exact hin.out
            · exact hok.out j (by omega)
          case measure => simp [intOf]; omega
      · have hsm := hid (belowB_of (n := 100001) (l := ws) (fun j hj => hok.out j (by omega)))
        obtain ⟨wa, rfl⟩ : ∃ x : World, x = wr := ⟨_, rfl⟩
        clear hok
        have hbd := hid (fun j (hj : j < ws.length) => belowB_at hsm.out hj)
        go_wp2
        go_loopw [6] (fun i wi => ∃ s : Nat, s ≤ ws.length ∧ i = .int .i64 s ∧ Hid (∀ a, a < s → ∀ b, b < ws.length → nearAt M ws a b = true) ∧ Drew wa wi) (fun i _ => ws.length - (intOf i).toNat)
        case atStart => exact ⟨0, by omega, rfl, by intro j hj; omega, Drew.refl _⟩
        case round =>
          obtain ⟨s, hs, rfl, hok, hd2⟩ := hrel
          obtain ⟨wb, rfl⟩ : ∃ x : World, x = wr := ⟨_, rfl⟩
          have z0 := hd2.ext.cell y0
          have e3 : Ext w wb := Ext.trans e1 hd2.ext
          by_cases hlts : s < ws.length
          · go_wp2
            go_loopw [7] (fun i wi => ∃ t : Nat, t ≤ ws.length ∧ i = .int .i64 t ∧ Hid (∀ b, b < t → nearAt M ws s b = true) ∧ Drew wb wi) (fun i _ => ws.length - (intOf i).toNat)
            case atStart => exact ⟨0, by omega, rfl, by intro j hj; omega, Drew.refl _⟩
            case round =>
              obtain ⟨t, ht, rfl, hok2, hd3⟩ := hrel
              have u0 := hd3.ext.cell z0
              have e4 : Ext w wr := Ext.trans e3 hd3.ext
              have e5 : Ext w0 wr := Ext.trans ‹Ext w0 w› e4
              by_cases hltt : t < ws.length
              · have htM : t < M.length := by have := hl.out; omega
                have hsM : s < M.length := by have := hl.out; omega
                obtain ⟨b3, o3, rfl, hc3⟩ := hx.at (w' := wr) hlts
                obtain ⟨b4, o4, hq4, hc4⟩ := hx.at (w' := wr) hltt
                cases hq4
                obtain ⟨b5, o5, d5, m5, rfl, hc5, hr5, _⟩ := hM.at (w' := wr) htM
                have hl5 := square_row hsq.out htM
                rw [hl5] at hr5 hc5
                replace hl5 := hid hl5
                obtain ⟨b6, o6, rfl, hc6⟩ := hr5.at (w' := wr) (k := s) (by rw [hl5.out]; exact hsM)
                have hc6' : wr.cell? ⟨b6, o6 + s, none⟩ = some (.int .i64 (cell M t s)) := hc6
                clear hc6
                have q1 := hbd.out t hltt
                have q3 := probB_move hp.out htM hsM
                by_cases hle : nth ws s ≤ nth ws t + cell M t s
                · have hgood := hid (show nearAt M ws s t = true from decide_eq_true hle)
                  have hle' : decide (nth ws t + cell M t s < nth ws s) = false := by simp; omega
                  go_wp2_with (go_quiet (fail))
                  go_roundw
                  case rel =>
                    refine ⟨t + 1, by omega, by go_num, ?_, hd3.step _⟩
                    intro j hj
                    by_cases hjk : j = t
                    · subst hjk; exact hgood.out
                    · exact hok2.out j (by omega)
                  case measure => simp [intOf]; omega
                · have hfin := hid (nearB_at hlts hltt (show nearAt M ws s t = false from decide_eq_false hle))
                  have hle' : decide (nth ws t + cell M t s < nth ws s) = true := by simp; omega
                  go_wp2_with (go_quiet (fail))
                  go_ret
                  exact ⟨ret_bool hfin.out.symm, Ext.trans e4 inferInstance⟩
              · go_wp2
                go_roundw
                case rel =>
                  refine ⟨s + 1, by omega, by go_num, ?_, hd2.trans hd3⟩
                  intro j hj b hb
                  by_cases hjk : j = s
                  · subst hjk; exact hok2.out b (by omega)
                  · exact hok.out j (by omega) b hb
                case measure => simp [intOf]; omega
          · have hfin := hid (nearB_true hl.out hsm.out (fun a ha b hb => hok.out a (by omega) b hb))
            go_wp2
            go_ret
            exact ⟨ret_bool hfin.out.symm, e3⟩
  · have hl' : ((ws.length : Int) != M.length) = true := by simp; omega
    have hr := hid (nearB_len hl)
    replace hl := hid hl
    go_enter Try.func87, Try.ntmps87
    go_wp2
    go_ret
    exact ⟨ret_bool hr.out.symm, inferInstance⟩

set_option maxHeartbeats 800000 in
set_option maxRecDepth 100000 in
theorem specNW_any {v vX : Value} {M S : List (List Int)} {X : List Int} {q : Int} {w0 w : World} [Ext w0 w] (hp : IsProb w0 v M S) (hX : IsInts w0 vX X) (_hq : I64 q) :
    Calls Try.prog 47 #[v, vX, .int .i64 q] w fun e w' => ∃ d0 m0, e = .returned (.tuple #[.slice d0 (nwR M S X q).length m0, .bool (nwB M S X q)]) ∧ IsInts w' (.slice d0 (nwR M S X q).length m0) (nwR M S X q) ∧ Ext w w' := by
  have hp' := hp
  obtain ⟨v1, v2, rfl, hM, hS⟩ := hp
  have hM' := hM
  have hS' := hS
  obtain ⟨a1, c1, rfl, l1⟩ := hM.form
  obtain ⟨a2, c2, rfl, l2⟩ := hS.form
  have hX' := hX
  obtain ⟨aX, cX, rfl, lX⟩ := hX.form
  cases hB0 : probB M S with
  | false =>
    have hr := hid (nwB_prob (ws := X) (q := q) hB0)
    have hz0 := hid (nwR_false hr.out)
    replace hB0 := hid hB0
    go_enter Try.func47, Try.ntmps47
    go_wp2_with fail
    refine (l8Good_any (w0 := w0) hp').mono ?_; rw [hB0.out]; rintro e w1 ⟨rfl, hb1⟩
    have x0 : w1.cell? ⟨w.heap.size, 0, none⟩ = some (.slice a1 M.length c1) := hb1.cell (by go_simp)
    have x1 : w1.cell? ⟨w.heap.size, 1, none⟩ = some (.slice a2 S.length c2) := hb1.cell (by go_simp)
    have e1 : Ext w w1 := Ext.trans inferInstance hb1
    have e0 : Ext w0 w1 := Ext.trans ‹Ext w0 w› e1
    clear hb1
    go_wp2_with fail
    go_ret2
    rw [hz0.out]
    try rw [hr.out]
    exact ⟨_, _, rfl, isInts_zero _ _ _, Ext.trans e1 inferInstance⟩
  | true =>
    have hC0 := hid hB0
    replace hB0 := hid hB0
    cases hB1 : nearB M X with
    | false =>
      have hr := hid (nwB_near (S := S) (q := q) hB1)
      have hz0 := hid (nwR_false hr.out)
      replace hB1 := hid hB1
      go_enter Try.func47, Try.ntmps47
      go_wp2_with fail
      refine (l8Good_any (w0 := w0) hp').mono ?_; rw [hB0.out]; rintro e w1 ⟨rfl, hb1⟩
      have x0 : w1.cell? ⟨w.heap.size, 0, none⟩ = some (.slice a1 M.length c1) := hb1.cell (by go_simp)
      have x1 : w1.cell? ⟨w.heap.size, 1, none⟩ = some (.slice a2 S.length c2) := hb1.cell (by go_simp)
      have e1 : Ext w w1 := Ext.trans inferInstance hb1
      have e0 : Ext w0 w1 := Ext.trans ‹Ext w0 w› e1
      clear hb1
      go_wp2_with fail
      refine (l8Near_any (w0 := w0) hM' hS' hX' hC0.out).mono ?_; rw [hB1.out]; rintro e w2 ⟨rfl, hb2⟩
      replace x0 := hb2.cell x0
      replace x1 := hb2.cell x1
      have e2 : Ext w w2 := Ext.trans e1 hb2
      have e0 : Ext w0 w2 := Ext.trans ‹Ext w0 w› e2
      clear hb2
      go_wp2_with fail
      go_ret2
      rw [hz0.out]
      try rw [hr.out]
      exact ⟨_, _, rfl, isInts_zero _ _ _, Ext.trans e2 inferInstance⟩
    | true =>
      have hC1 := hid hB1
      replace hB1 := hid hB1
      cases hB2 : inB q 0 ((S.length : Int) - 1) with
      | false =>
        have hr := hid (nwB_req (M := M) (ws := X) hB2)
        have hz0 := hid (nwR_false hr.out)
        replace hB2 := hid hB2
        go_enter Try.func47, Try.ntmps47
        go_wp2_with fail
        refine (l8Good_any (w0 := w0) hp').mono ?_; rw [hB0.out]; rintro e w1 ⟨rfl, hb1⟩
        have x0 : w1.cell? ⟨w.heap.size, 0, none⟩ = some (.slice a1 M.length c1) := hb1.cell (by go_simp)
        have x1 : w1.cell? ⟨w.heap.size, 1, none⟩ = some (.slice a2 S.length c2) := hb1.cell (by go_simp)
        have e1 : Ext w w1 := Ext.trans inferInstance hb1
        have e0 : Ext w0 w1 := Ext.trans ‹Ext w0 w› e1
        clear hb1
        go_wp2_with fail
        refine (l8Near_any (w0 := w0) hM' hS' hX' hC0.out).mono ?_; rw [hB1.out]; rintro e w2 ⟨rfl, hb2⟩
        replace x0 := hb2.cell x0
        replace x1 := hb2.cell x1
        have e2 : Ext w w2 := Ext.trans e1 hb2
        have e0 : Ext w0 w2 := Ext.trans ‹Ext w0 w› e2
        clear hb2
        go_wp2_with fail
        refine (l1In_ext q 0 ((S.length : Int) - 1)).mono ?_; rw [hB2.out]; rintro e w3 ⟨rfl, hb3⟩
        replace x0 := hb3.cell x0
        replace x1 := hb3.cell x1
        have e3 : Ext w w3 := Ext.trans e2 hb3
        have e0 : Ext w0 w3 := Ext.trans ‹Ext w0 w› e3
        clear hb3
        go_wp2_with fail
        go_ret2
        rw [hz0.out]
        try rw [hr.out]
        exact ⟨_, _, rfl, isInts_zero _ _ _, Ext.trans e3 inferInstance⟩
      | true =>
        have hC2 := hid hB2
        replace hB2 := hid hB2
        have hok := hid (nwB_true hC0.out hC2.out hC1.out)
        have hv0 := hid (nwR_true hok.out)
        go_enter Try.func47, Try.ntmps47
        go_wp2_with fail
        refine (l8Good_any (w0 := w0) hp').mono ?_; rw [hB0.out]; rintro e w1 ⟨rfl, hb1⟩
        have x0 : w1.cell? ⟨w.heap.size, 0, none⟩ = some (.slice a1 M.length c1) := hb1.cell (by go_simp)
        have x1 : w1.cell? ⟨w.heap.size, 1, none⟩ = some (.slice a2 S.length c2) := hb1.cell (by go_simp)
        have e1 : Ext w w1 := Ext.trans inferInstance hb1
        have e0 : Ext w0 w1 := Ext.trans ‹Ext w0 w› e1
        clear hb1
        go_wp2_with fail
        refine (l8Near_any (w0 := w0) hM' hS' hX' hC0.out).mono ?_; rw [hB1.out]; rintro e w2 ⟨rfl, hb2⟩
        replace x0 := hb2.cell x0
        replace x1 := hb2.cell x1
        have e2 : Ext w w2 := Ext.trans e1 hb2
        have e0 : Ext w0 w2 := Ext.trans ‹Ext w0 w› e2
        clear hb2
        go_wp2_with fail
        refine (l1In_ext q 0 ((S.length : Int) - 1)).mono ?_; rw [hB2.out]; rintro e w3 ⟨rfl, hb3⟩
        replace x0 := hb3.cell x0
        replace x1 := hb3.cell x1
        have e3 : Ext w w3 := Ext.trans e2 hb3
        have e0 : Ext w0 w3 := Ext.trans ‹Ext w0 w› e3
        clear hb3
        have hq := inB_true.1 hC2.out
        obtain ⟨r, hr'⟩ := Int.eq_ofNat_of_zero_le hq.1
        have hrS : r < S.length := by omega
        clear hq
        subst hr'
        rw [Int.toNat_natCast] at hv0
        have hok2 := hid (nearB_ok hC1.out)
        have hn := hid (probB_len hC0.out)
        have hnx := hid (nextL_ok hC0.out hok2.out (by omega) hrS)
        go_wp2_with fail
        refine (l8Next_any (w0 := w0) hM' hS' hX' hC0.out hok2.out (by omega) hrS).mono ?_
        rintro e w4 ⟨d, m, rfl, own, hb⟩
        have hst := own.reads (by rw [nextL_length, hok2.out.1]; have := hn.out; unfold Short; omega) (wOk_i64 hnx.out (by omega))
        rw [← hv0.out] at hst ⊢
        go_wp2_with fail
        go_ret2
        rw [hok.out]
        exact ⟨_, _, rfl, hst, Ext.trans e3 hb⟩

end Go.Proofs.Ytbclgdajgaljkaa
