/- Joining, weaving, projecting and renaming sequences, and their windows: the reference's. -/
import Derived.Test.YtmabejallkjjmaaPtI
import Derived.Test.YtmabejallkjjmaaGrG
namespace Go.Proofs.Ytmabejallkjjmaa
open Go.RowKit

theorem l3Gd_any {v : Value} {X : List Int} {n : Int} {w0 w : World} [Ext w0 w] (hX : IsInts w0 v X) :
    Calls Try.prog 62 #[.int .i64 n, v] w fun e w' => e = .returned (.bool (seqOk n X)) ∧ Ext w w' := l3Good_any hX
set_option maxHeartbeats 800000 in
theorem l3Order_any {v : Value} {T : List Int} {n : Int} {w0 w : World} [Ext w0 w] (hT : IsInts w0 v T) (hn : 1 ≤ n ∧ n ≤ 8) :
    Calls Try.prog 93 #[.int .i64 n, v] w fun e w' => e = .returned (.bool (orB n T)) ∧ Ext w w' := by
  have hT' := hT
  obtain ⟨a, c, rfl, la⟩ := hT.form
  by_cases hl : (T.length : Int) = n
  · have hb : ((T.length : Int) == n) = true := by simp [hl]
    cases hbl : belowB n T with
    | false =>
      have hr := hid (show orB n T = false by simp [orB, hbl])
      replace hbl := hid hbl
      replace hl := hid hl
      go_enter Try.func93, Try.ntmps93
      go_wp2_with fail
      with_reducible refine (l3List_any (w0 := w0) hT' hn).mono ?_
      rw [hbl.out]
      rintro e w2 ⟨rfl, e2⟩
      go_wp2_with fail
      go_ret
      exact ⟨ret_bool hr.out.symm, e2⟩
    | true =>
      obtain ⟨D, hD⟩ : ∃ D, D = (difL T).length := ⟨_, rfl⟩
      have hr := hid (show orB n T = ((D : Int) == n) by rw [orB, decide_eq_true hl, hbl, Bool.true_and, Bool.true_and, ← hD]; rfl)
      have hT8 : T.length ≤ 100000 := by omega
      replace hbl := hid hbl
      replace hl := hid hl
      go_enter Try.func93, Try.ntmps93
      go_wp2_with fail
      with_reducible refine (l3List_any (w0 := w0) hT' hn).mono ?_
      rw [hbl.out]
      rintro e w2 ⟨rfl, e2⟩
      have e02 : Ext w0 w2 := Ext.trans ‹Ext w0 w› e2
      go_wp2_with fail
      with_reducible refine (l3Different_any (w0 := w0) (w := w2) hT' hT8).mono ?_
      rw [← hD]
      rintro e w3 ⟨d3, m3, rfl, _, e3⟩
      replace hD := hid hD
      go_wp2_with fail
      go_ret
      exact ⟨ret_bool hr.out.symm, Ext.trans e2 e3⟩
  · have hb : ((T.length : Int) == n) = false := by simp [hl]
    have hr := hid (show orB n T = false by simp [orB, hl])
    replace hl := hid hl
    go_enter Try.func93, Try.ntmps93
    go_wp2_with fail
    go_ret
    exact ⟨ret_bool hr.out.symm, Ext.refl _⟩


set_option maxHeartbeats 800000 in
set_option maxRecDepth 100000 in
theorem specJn_any {vX vY : Value} {n : Int} {X Y : List Int} {w0 w : World} [Ext w0 w] (hX : IsInts w0 vX X) (hY : IsInts w0 vY Y) :
    Calls Try.prog 31 #[.int .i64 n, vX, vY] w fun e w' => ∃ u, e = .returned (.tuple #[u, .bool (jnB n X Y)]) ∧ IsInts w' u (jnR n X Y) ∧ Ext w w' := by
  have hX' := hX
  obtain ⟨dx, mx, rfl, lx⟩ := hX.form
  have hY' := hY
  obtain ⟨dy, my, rfl, ly⟩ := hY.form
  cases hp : jnB n X Y with
  | false =>
    have hv := hid (show jnR n X Y = [] by rw [jnR, hp]; rfl)
    cases h1 : seqOk n X with
    | false =>
      replace h1 := hid h1
      replace hp := hid hp
      go_enter Try.func31, Try.ntmps31
      skip
      go_wp2_with fail
      with_reducible refine (l3Gd_any (w0 := w0) hX').mono ?_
      rw [h1.out]
      rintro e w2 ⟨rfl, e2⟩
      go_wp2_with fail
      go_ret2
      rw [hv.out]
      exact ⟨_, rfl, ints_nil _ _ _, by first | exact e2 | exact Ext.trans e2 inferInstance⟩
    | true =>
      cases h2 : seqOk n Y with
      | false =>
        replace h1 := hid h1
        replace h2 := hid h2
        replace hp := hid hp
        go_enter Try.func31, Try.ntmps31
        skip
        go_wp2_with fail
        with_reducible refine (l3Gd_any (w0 := w0) hX').mono ?_
        rw [h1.out]
        rintro e w2 ⟨rfl, e2⟩
        have e02 : Ext w0 w2 := Ext.trans ‹Ext w0 w› e2
        go_wp2_with fail
        with_reducible refine (l3Gd_any (w0 := w0) (w := w2) hY').mono ?_
        rw [h2.out]
        rintro e w3 ⟨rfl, e3⟩
        go_wp2_with fail
        go_ret2
        rw [hv.out]
        exact ⟨_, rfl, ints_nil _ _ _, by first | exact Ext.trans e2 e3 | exact Ext.trans (Ext.trans e2 e3) inferInstance⟩
      | true =>
        have h3 : ¬ X.length + Y.length ≤ 60 := fun h => by rw [jnB_iff.2 ⟨h1, h2, h⟩] at hp; cases hp
        have hd : decide ((X.length : Int) + (Y.length : Int) > 60) = true := decide_eq_true (by omega)
        replace h1 := hid h1
        replace h2 := hid h2
        replace hp := hid hp
        go_enter Try.func31, Try.ntmps31
        skip
        go_wp2_with fail
        with_reducible refine (l3Gd_any (w0 := w0) hX').mono ?_
        rw [h1.out]
        rintro e w2 ⟨rfl, e2⟩
        have e02 : Ext w0 w2 := Ext.trans ‹Ext w0 w› e2
        go_wp2_with fail
        with_reducible refine (l3Gd_any (w0 := w0) (w := w2) hY').mono ?_
        rw [h2.out]
        rintro e w3 ⟨rfl, e3⟩
        go_wp2_with fail
        go_ret2
        rw [hv.out]
        exact ⟨_, rfl, ints_nil _ _ _, by first | exact Ext.trans e2 e3 | exact Ext.trans (Ext.trans e2 e3) inferInstance⟩
  | true =>
    have hv := hid (show jnR n X Y = X ++ Y by rw [jnR, hp]; rfl)
    obtain ⟨h1, h2, h3⟩ := jnB_iff.1 hp
    obtain ⟨a1, a2, a3⟩ := seqOk_iff.1 h1
    obtain ⟨b1, b2, b3⟩ := seqOk_iff.1 h2
    have hd : decide ((X.length : Int) + (Y.length : Int) > 60) = false := decide_eq_false (by omega)
    replace a3 := hid a3
    replace b3 := hid b3
    replace h1 := hid h1
    replace h2 := hid h2
    replace hp := hid hp
    go_enter Try.func31, Try.ntmps31
    go_wp2_with fail
    with_reducible refine (l3Gd_any (w0 := w0) hX').mono ?_
    rw [h1.out]
    rintro e w2 ⟨rfl, e2⟩
    have e02 : Ext w0 w2 := Ext.trans ‹Ext w0 w› e2
    go_wp2_with fail
    with_reducible refine (l3Gd_any (w0 := w0) (w := w2) hY').mono ?_
    rw [h2.out]
    rintro e w3 ⟨rfl, e3⟩
    have e03 : Ext w0 w3 := Ext.trans e02 e3
    go_wp2_with fail
    with_reducible refine (l1Own_any (w0 := w0) (w := w3) hX').mono ?_
    rintro e w4 ⟨d4, m4, rfl, own4, e4⟩
    have hB4 := e4.size
    have hY4 := hY'.ext (e := Ext.trans e03 e4)
    go_wp2_with (at_builtin; refine wpList_appendInts rfl _ _ _ rfl elemInt rfl own4 hB4 rfl hY4 (by omega) ?_; intro v5 w5 ho5 hb5; obtain ⟨d5, m5, hv5⟩ := ho5.form; (obtain rfl : v5 = .slice d5 (X.length + Y.length) m5 := hv5))
    go_ret2
    rw [hv.out]
    refine ⟨_, rfl, ?_, Ext.trans e2 (Ext.trans e3 ⟨e4.below.trans hb5⟩)⟩
    rw [← List.map_append] at ho5
    exact ho5.readsN (List.length_append) (by omega) (fun y hy => by
      rcases List.mem_append.1 hy with h | h
      · have := a3.out y h; unfold I64; omega
      · have := b3.out y h; unfold I64; omega)

set_option maxHeartbeats 1600000 in
set_option maxRecDepth 100000 in
theorem specWv_any {vX vY : Value} {n : Int} {X Y : List Int} {w0 w : World} [Ext w0 w] (hX : IsInts w0 vX X) (hY : IsInts w0 vY Y) :
    Calls Try.prog 32 #[.int .i64 n, vX, vY] w fun e w' => ∃ u, e = .returned (.tuple #[u, .bool (jnB n X Y)]) ∧ IsInts w' u (wvR n X Y) ∧ Ext w w' := by
  have hX' := hX
  obtain ⟨dx, mx, rfl, lx⟩ := hX.form
  have hY' := hY
  obtain ⟨dy, my, rfl, ly⟩ := hY.form
  cases hp : jnB n X Y with
  | false =>
    have hv := hid (show wvR n X Y = [] by rw [wvR, hp]; rfl)
    cases h1 : seqOk n X with
    | false =>
      replace h1 := hid h1
      replace hp := hid hp
      go_enter Try.func32, Try.ntmps32
      skip
      go_wp2_with fail
      with_reducible refine (l3Gd_any (w0 := w0) hX').mono ?_
      rw [h1.out]
      rintro e w2 ⟨rfl, e2⟩
      go_wp2_with fail
      go_ret2
      rw [hv.out]
      exact ⟨_, rfl, ints_nil _ _ _, by first | exact (Ext.trans inferInstance e2) | exact Ext.trans (Ext.trans inferInstance e2) inferInstance⟩
    | true =>
      cases h2 : seqOk n Y with
      | false =>
        replace h1 := hid h1
        replace h2 := hid h2
        replace hp := hid hp
        go_enter Try.func32, Try.ntmps32
        skip
        go_wp2_with fail
        with_reducible refine (l3Gd_any (w0 := w0) hX').mono ?_
        rw [h1.out]
        rintro e w2 ⟨rfl, e2⟩
        have e02 : Ext w0 w2 := Ext.trans ‹Ext w0 w› (Ext.trans inferInstance e2)
        go_wp2_with fail
        with_reducible refine (l3Gd_any (w0 := w0) (w := w2) hY').mono ?_
        rw [h2.out]
        rintro e w3 ⟨rfl, e3⟩
        go_wp2_with fail
        go_ret2
        rw [hv.out]
        exact ⟨_, rfl, ints_nil _ _ _, by first | exact Ext.trans (Ext.trans inferInstance e2) e3 | exact Ext.trans (Ext.trans (Ext.trans inferInstance e2) e3) inferInstance⟩
      | true =>
        have h3 : ¬ X.length + Y.length ≤ 60 := fun h => by rw [jnB_iff.2 ⟨h1, h2, h⟩] at hp; cases hp
        have hd : decide ((X.length : Int) + (Y.length : Int) > 60) = true := decide_eq_true (by omega)
        replace h1 := hid h1
        replace h2 := hid h2
        replace hp := hid hp
        go_enter Try.func32, Try.ntmps32
        skip
        go_wp2_with fail
        with_reducible refine (l3Gd_any (w0 := w0) hX').mono ?_
        rw [h1.out]
        rintro e w2 ⟨rfl, e2⟩
        have e02 : Ext w0 w2 := Ext.trans ‹Ext w0 w› (Ext.trans inferInstance e2)
        go_wp2_with fail
        with_reducible refine (l3Gd_any (w0 := w0) (w := w2) hY').mono ?_
        rw [h2.out]
        rintro e w3 ⟨rfl, e3⟩
        go_wp2_with fail
        go_ret2
        rw [hv.out]
        exact ⟨_, rfl, ints_nil _ _ _, by first | exact Ext.trans (Ext.trans inferInstance e2) e3 | exact Ext.trans (Ext.trans (Ext.trans inferInstance e2) e3) inferInstance⟩
  | true =>
    have hv := hid (show wvR n X Y = wvL X Y by rw [wvR, hp]; rfl)
    obtain ⟨h1, h2, h3⟩ := jnB_iff.1 hp
    obtain ⟨a1, a2, a3⟩ := seqOk_iff.1 h1
    obtain ⟨b1, b2, b3⟩ := seqOk_iff.1 h2
    have hd : decide ((X.length : Int) + (Y.length : Int) > 60) = false := decide_eq_false (by omega)
    replace a3 := hid a3
    replace b3 := hid b3
    replace h1 := hid h1
    replace h2 := hid h2
    replace hp := hid hp
    go_enter Try.func32, Try.ntmps32
    have own1 : Own (w.alloc (.cells #[] 3)) w.heap.size [intRowOf 3 (.slice (some ⟨w.heap.size, 0, none⟩) 0 0) []] := Own.litInts (xs := []) (Nat.le_refl _) rfl rfl (by simp) rfl
    have b1 : Below w.heap.size w (w.alloc (.cells #[] 3)) := (Below.refl _ w).alloc (Nat.le_refl _) _
    go_upto_region 2 with fail
    obtain ⟨B, hB0⟩ : ∃ b, b = w.heap.size := ⟨_, rfl⟩
    have hEx := hid (show ∀ u, Below B w u → Ext w u from fun u h => ⟨by rw [← hB0]; exact h⟩)
    have hBs := hid (show ∀ u, Below B w u → B ≤ u.heap.size from fun u h => by rw [hB0]; exact h.size)
    rw [← hB0] at own1 b1 ⊢
    replace hB0 := hid hB0
    generalize w.alloc (.cells #[] 3) = w1 at *
    have e1 : Ext w w1 := hEx.out _ b1
    have hB1 : B ≤ w1.heap.size := hBs.out _ b1
    have e01 : Ext w0 w1 := Ext.trans ‹Ext w0 w› e1
    go_wp2_with fail
    with_reducible refine (l3Gd_any (w0 := w0) (w := w1) hX').mono ?_
    rw [h1.out]
    rintro e w2 ⟨rfl, e2⟩
    have e02 : Ext w0 w2 := Ext.trans e01 e2
    go_wp2_with fail
    with_reducible refine (l3Gd_any (w0 := w0) (w := w2) hY').mono ?_
    rw [h2.out]
    rintro e w3 ⟨rfl, e3⟩
    have own1 := (own1.ext (w' := w2)).ext (w' := w3)
    have b1 : Below B w w3 := b1.trans (e2.below.mono hB1 |>.trans (e3.below.mono (Nat.le_trans hB1 e2.size)))
    go_wp2_with fail
    go_loopw [8, 9] (fun u i wr => ∃ t : Nat, t ≤ max X.length Y.length ∧ i = .int .i64 t ∧ Own wr B [intRowOf 3 u (wvTo X Y t)] ∧ Below B w wr) (fun _ i _ => max X.length Y.length - (intOf i).toNat)
    case atStart => exact ⟨0, by omega, rfl, own1, b1⟩
    case round =>
      clear own1 b1
      obtain ⟨t, ht, rfl, own, hb⟩ := hrel
      obtain ⟨wo, rfl⟩ : ∃ y : World, y = wr := ⟨_, rfl⟩
      obtain ⟨dO, N, mO, hvO, hN⟩ := own_formN own
      subst hvO
      have hBo : B ≤ wo.heap.size := hBs.out _ hb
      have eo : Ext w wo := hEx.out _ hb
      have e0 : Ext w0 wo := Ext.trans ‹Ext w0 w› eo
      have hwl := wvTo_len X Y t
      have hsu : wvTo X Y (t + 1) = wvTo X Y t ++ (if t < X.length then [nth X t] else []) ++ (if t < Y.length then [nth Y t] else []) := rfl
      by_cases hlt : t < max X.length Y.length
      · skip
        by_cases hx : t < X.length
        · obtain ⟨bx, ox, hdx, hcx⟩ := hX'.at (w' := wo) hx
          cases hdx
          obtain ⟨x, hxe⟩ : ∃ x, x = nth X t := ⟨_, rfl⟩
          rw [if_pos hx, ← hxe] at hsu
          rw [← hxe] at hcx
          replace hxe := hid hxe
          go_upto_region 9 with (at_builtin; refine wpList_append1 rfl _ _ _ rfl elemInt rfl own hBo rfl rfl (by omega) (by omega) ?_; intro v5 w5 ho5 hb5; obtain ⟨d5, n5, m5, hv5, hn5⟩ := own_formN (own_grow1 ho5 rfl); (obtain rfl : v5 = .slice d5 n5 m5 := hv5))
          have own5 := own_grow1 ho5 rfl
          have b5 := hb.trans hb5
          have hB5 := hBs.out _ b5
          clear own ho5 hcx
          by_cases hy : t < Y.length
          · skip
            have e05 : Ext w0 w5 := Ext.trans ‹Ext w0 w› (hEx.out _ b5)
            obtain ⟨by', oy, hdy, hcy⟩ := hY'.at (w' := w5) hy
            cases hdy
            obtain ⟨y, hye⟩ : ∃ y, y = nth Y t := ⟨_, rfl⟩
            rw [if_pos hy, ← hye] at hsu
            rw [← hye] at hcy
            replace hye := hid hye
            replace hsu := hid hsu
            go_wp2_with (at_builtin; refine wpList_append1 rfl _ _ _ rfl elemInt rfl own5 hB5 rfl rfl (by first | omega | (simp only [List.length_append, List.length_singleton]; omega)) (by first | omega | (simp only [List.length_append, List.length_singleton]; omega)) ?_; intro v6 w6 ho6 hb6)
            go_roundw
            case rel => exact ⟨t + 1, by omega, by go_num, by rw [hsu.out]; exact own_grow1 ho6 rfl, b5.trans hb6⟩
            case measure => simp [intOf]; omega
          · rw [if_neg hy, List.append_nil] at hsu
            replace hsu := hid hsu
            go_wp2_with fail
            go_roundw
            case rel => exact ⟨t + 1, by omega, by go_num, by rw [hsu.out]; exact own5, b5⟩
            case measure => simp [intOf]; omega
        · have hy : t < Y.length := by omega
          rw [if_neg hx, List.append_nil] at hsu
          have own5 := own
          have b5 := hb
          have hB5 := hBo
          obtain ⟨w5, hw5⟩ : ∃ z, z = wo := ⟨_, rfl⟩
          subst hw5
          have e05 : Ext w0 w5 := Ext.trans ‹Ext w0 w› (hEx.out _ b5)
          obtain ⟨by', oy, hdy, hcy⟩ := hY'.at (w' := w5) hy
          cases hdy
          obtain ⟨y, hye⟩ : ∃ y, y = nth Y t := ⟨_, rfl⟩
          rw [if_pos hy, ← hye] at hsu
          rw [← hye] at hcy
          replace hye := hid hye
          replace hsu := hid hsu
          go_wp2_with (at_builtin; refine wpList_append1 rfl _ _ _ rfl elemInt rfl own5 hB5 rfl rfl (by first | omega | (simp only [List.length_append, List.length_singleton]; omega)) (by first | omega | (simp only [List.length_append, List.length_singleton]; omega)) ?_; intro v6 w6 ho6 hb6)
          go_roundw
          case rel => exact ⟨t + 1, by omega, by go_num, by rw [hsu.out]; exact own_grow1 ho6 rfl, b5.trans hb6⟩
          case measure => simp [intOf]; omega
      · have htX : t = max X.length Y.length := by omega
        have hfin := hid (show wvTo X Y t = wvL X Y by rw [htX]; rfl)
        have hr : IsInts wo (.slice dO N mO) (wvL X Y) := by
          have h := own.reads (by unfold Short; omega) (fun y hy => by
            rcases wvTo_mem hy with h | h
            · have := a3.out y h; unfold I64; omega
            · have := b3.out y h; unfold I64; omega)
          rw [hfin.out] at h
          exact h
        clear own
        skip
        go_wp2_with fail
        go_ret2
        rw [hv.out]
        exact ⟨_, rfl, hr, eo⟩

set_option maxHeartbeats 800000 in
set_option maxRecDepth 100000 in
theorem l3Project_any {vX vT : Value} {X T : List Int} {w0 w : World} [Ext w0 w] (hX : IsInts w0 vX X) (hT : IsInts w0 vT T) (hl : X.length ≤ 60) :
    Calls Try.prog 90 #[vX, vT] w fun e w' => ∃ d n m, e = .returned (.slice d n m) ∧ IsInts w' (.slice d n m) (pjL X T) ∧ Ext w w' := by
  have hX' := hX
  obtain ⟨dx, mx, rfl, lx⟩ := hX.form
  have hT' := hT
  obtain ⟨dt, mt, rfl, lt⟩ := hT.form
  have own1 : Own (w.alloc (.cells #[] 3)) w.heap.size [intRowOf 3 (.slice (some ⟨w.heap.size, 0, none⟩) 0 0) (pjL (X.take 0) T)] := Own.litInts (xs := []) (Nat.le_refl _) rfl rfl (by simp) rfl
  have b1 : Below w.heap.size w (w.alloc (.cells #[] 3)) := (Below.refl _ w).alloc (Nat.le_refl _) _
  have hXi := hid (show ∀ y ∈ X, I64 y from fun y hy => hX'.all.2 y hy)
  go_enter Try.func90, Try.ntmps90
  go_upto_region 2 with fail
  obtain ⟨B, hB0⟩ : ∃ b, b = w.heap.size := ⟨_, rfl⟩
  have hEx := hid (show ∀ u, Below B w u → Ext w u from fun u h => ⟨by rw [← hB0]; exact h⟩)
  have hBs := hid (show ∀ u, Below B w u → B ≤ u.heap.size from fun u h => by rw [hB0]; exact h.size)
  rw [← hB0] at own1 b1 ⊢
  replace hB0 := hid hB0
  generalize w.alloc (.cells #[] 3) = w1 at *
  go_wp2_with fail
  go_loopw [5, 6] (fun u i wr => ∃ t : Nat, t ≤ X.length ∧ i = .int .i64 t ∧ Own wr B [intRowOf 3 u (pjL (X.take t) T)] ∧ Below B w wr) (fun _ i _ => X.length - (intOf i).toNat)
  case atStart => exact ⟨0, by omega, rfl, own1, b1⟩
  case round =>
    clear own1 b1
    obtain ⟨t, ht, rfl, own, hb⟩ := hrel
    obtain ⟨wo, rfl⟩ : ∃ y : World, y = wr := ⟨_, rfl⟩
    obtain ⟨dO, N, mO, hvO, hN⟩ := own_formN own
    subst hvO
    have hBo : B ≤ wo.heap.size := hBs.out _ hb
    have eo : Ext w wo := hEx.out _ hb
    have e0 : Ext w0 wo := Ext.trans ‹Ext w0 w› eo
    have hpl : (pjL (X.take t) T).length ≤ 60 := by
      have h1 := List.length_filter_le (fun x => hasB T x) (X.take t)
      have h2 : (X.take t).length ≤ t := by rw [List.length_take]; omega
      unfold pjL
      omega
    by_cases hlt : t < X.length
    · obtain ⟨bx, ox, hdx, hcx⟩ := hX'.at (w' := wo) hlt
      cases hdx
      obtain ⟨x, hx⟩ : ∃ x, x = nth X t := ⟨_, rfl⟩
      have hsu : pjL (X.take (t + 1)) T = pjL (X.take t) T ++ (if hasB T x = true then [x] else []) := by
        rw [take_succ_nth hlt, pjL, List.filter_append, ← hx]
        congr 1
        cases h : hasB T x <;> simp [h]
      rw [← hx] at hcx
      replace hx := hid hx
      cases hin : hasB T x with
      | false =>
        rw [hin, if_neg (by simp), List.append_nil] at hsu
        replace hsu := hid hsu
        replace hin := hid hin
        go_wp2_with fail
        with_reducible refine (l1Has_any (w0 := w0) (w := wo) hT').mono ?_
        rw [hin.out]
        rintro e w5 ⟨rfl, rfl⟩
        go_wp2_with fail
        go_roundw
        case rel => exact ⟨t + 1, by omega, by go_num, by rw [hsu.out]; exact own, hb⟩
        case measure => simp [intOf]; omega
      | true =>
        rw [hin, if_pos rfl] at hsu
        replace hsu := hid hsu
        replace hin := hid hin
        go_wp2_with fail
        with_reducible refine (l1Has_any (w0 := w0) (w := wo) hT').mono ?_
        rw [hin.out]
        rintro e w5 ⟨rfl, rfl⟩
        go_wp2_with (at_builtin; refine wpList_append1 rfl _ _ _ rfl elemInt rfl own hBo rfl rfl (by omega) (by omega) ?_; intro v6 w6 ho6 hb6)
        go_roundw
        case rel => exact ⟨t + 1, by omega, by go_num, by rw [hsu.out]; exact own_grow1 ho6 rfl, hb.trans hb6⟩
        case measure => simp [intOf]; omega
    · have hr : IsInts wo (.slice dO N mO) (pjL X T) := by
        rw [show t = X.length by omega, List.take_length] at own
        have hpl2 : (pjL X T).length ≤ 60 := Nat.le_trans (List.length_filter_le _ _) hl
        exact own.reads (by unfold Short; omega) (fun y hy => hXi.out y (List.mem_filter.1 hy).1)
      clear own
      go_wp2_with fail
      go_ret
      exact ⟨_, _, _, rfl, hr, eo⟩

set_option maxHeartbeats 800000 in
set_option maxRecDepth 100000 in
theorem specPj_any {vX vT : Value} {n : Int} {X T : List Int} {w0 w : World} [Ext w0 w] (hX : IsInts w0 vX X) (hT : IsInts w0 vT T) :
    Calls Try.prog 36 #[.int .i64 n, vX, vT] w fun e w' => ∃ u, e = .returned (.tuple #[u, .bool (pjB n X T)]) ∧ IsInts w' u (pjR n X T) ∧ Ext w w' := by
  have hX' := hX
  obtain ⟨dx, mx, rfl, lx⟩ := hX.form
  have hT' := hT
  obtain ⟨dt, mt, rfl, lt⟩ := hT.form
  cases h1 : seqOk n X with
  | false =>
    have hb := hid (show pjB n X T = false by rw [pjB, h1]; rfl)
    have hv := hid (show pjR n X T = [] by rw [pjR, hb.out]; rfl)
    replace h1 := hid h1
    rw [hb.out]
    go_enter Try.func36, Try.ntmps36
    go_wp2_with fail
    with_reducible refine (l3Gd_any (w0 := w0) hX').mono ?_
    rw [h1.out]
    rintro e w2 ⟨rfl, e2⟩
    go_wp2_with fail
    go_ret2
    rw [hv.out]
    exact ⟨_, rfl, ints_nil _ _ _, Ext.trans e2 inferInstance⟩
  | true =>
    obtain ⟨a1, a2, a3⟩ := seqOk_iff.1 h1
    obtain ⟨q, hq⟩ : ∃ q, q = (belowB n T && rsB T) := ⟨_, rfl⟩
    have hb := hid (show pjB n X T = q by rw [pjB, h1, hq]; rfl)
    have hR := fun (w1 : World) (_ : Ext w0 w1) => l1Rising_any (n := n) (w0 := w0) (w := w1) hT'
    rw [← hq] at hR
    replace hR := hid hR
    replace hq := hid hq
    replace a3 := hid a3
    rw [hb.out]
    cases q with
    | false =>
      have hv := hid (show pjR n X T = [] by rw [pjR, hb.out]; rfl)
      replace h1 := hid h1
      go_enter Try.func36, Try.ntmps36
      go_wp2_with fail
      with_reducible refine (l3Gd_any (w0 := w0) hX').mono ?_
      rw [h1.out]
      rintro e w2 ⟨rfl, e2⟩
      have e02 : Ext w0 w2 := Ext.trans ‹Ext w0 w› e2
      go_wp2_with fail
      with_reducible refine (hR.out w2 e02).mono ?_
      rintro e w3 ⟨rfl, e3⟩
      go_wp2_with fail
      go_ret2
      rw [hv.out]
      exact ⟨_, rfl, ints_nil _ _ _, Ext.trans e2 (Ext.trans e3 inferInstance)⟩
    | true =>
      have hv := hid (show pjR n X T = pjL X T by rw [pjR, hb.out]; rfl)
      replace h1 := hid h1
      go_enter Try.func36, Try.ntmps36
      go_wp2_with fail
      with_reducible refine (l3Gd_any (w0 := w0) hX').mono ?_
      rw [h1.out]
      rintro e w2 ⟨rfl, e2⟩
      have e02 : Ext w0 w2 := Ext.trans ‹Ext w0 w› e2
      go_wp2_with fail
      with_reducible refine (hR.out w2 e02).mono ?_
      rintro e w3 ⟨rfl, e3⟩
      have e03 : Ext w0 w3 := Ext.trans e02 e3
      go_wp2_with fail
      with_reducible refine (l3Project_any (w0 := w0) (w := w3) hX' hT' a2).mono ?_
      rintro e w4 ⟨d4, n4, m4, rfl, hr4, e4⟩
      go_wp2_with fail
      go_ret2
      rw [hv.out]
      exact ⟨_, rfl, hr4, Ext.trans e2 (Ext.trans e3 e4)⟩

set_option maxHeartbeats 800000 in
set_option maxRecDepth 100000 in
theorem specRm_any {vX vT : Value} {n : Int} {X T : List Int} {w0 w : World} [Ext w0 w] (hX : IsInts w0 vX X) (hT : IsInts w0 vT T) :
    Calls Try.prog 39 #[.int .i64 n, vX, vT] w fun e w' => ∃ u, e = .returned (.tuple #[u, .bool (rmB n X T)]) ∧ IsInts w' u (rmR n X T) ∧ Ext w w' := by
  have hX' := hX
  obtain ⟨dx, mx, rfl, lx⟩ := hX.form
  have hT' := hT
  obtain ⟨dt, mt, rfl, lt⟩ := hT.form
  cases h1 : seqOk n X with
  | false =>
    have hb := hid (show rmB n X T = false by rw [rmB, h1]; rfl)
    have hv := hid (show rmR n X T = [] by rw [rmR, hb.out]; rfl)
    replace h1 := hid h1
    rw [hb.out]
    go_enter Try.func39, Try.ntmps39
    skip
    go_wp2_with fail
    with_reducible refine (l3Gd_any (w0 := w0) hX').mono ?_
    rw [h1.out]
    rintro e w2 ⟨rfl, e2⟩
    go_wp2_with fail
    go_ret2
    rw [hv.out]
    exact ⟨_, rfl, ints_nil _ _ _, (Ext.trans inferInstance e2)⟩
  | true =>
    obtain ⟨a1, a2, a3⟩ := seqOk_iff.1 h1
    cases h2 : orB n T with
    | false =>
      have hb := hid (show rmB n X T = false by rw [rmB, h1, h2]; rfl)
      have hv := hid (show rmR n X T = [] by rw [rmR, hb.out]; rfl)
      replace h1 := hid h1
      replace h2 := hid h2
      replace a3 := hid a3
      rw [hb.out]
      go_enter Try.func39, Try.ntmps39
      skip
      go_wp2_with fail
      with_reducible refine (l3Gd_any (w0 := w0) hX').mono ?_
      rw [h1.out]
      rintro e w2 ⟨rfl, e2⟩
      have e02 : Ext w0 w2 := Ext.trans ‹Ext w0 w› (Ext.trans inferInstance e2)
      go_wp2_with fail
      with_reducible refine (l3Order_any (w0 := w0) (w := w2) hT' a1).mono ?_
      rw [h2.out]
      rintro e w3 ⟨rfl, e3⟩
      go_wp2_with fail
      go_ret2
      rw [hv.out]
      exact ⟨_, rfl, ints_nil _ _ _, Ext.trans (Ext.trans inferInstance e2) e3⟩
    | true =>
      have hb := hid (show rmB n X T = true by rw [rmB, h1, h2]; rfl)
      have hv := hid (show rmR n X T = rmL X T by rw [rmR, hb.out]; rfl)
      obtain ⟨c1, c2⟩ := orB_in h2
      have hok := seqOk_iff.1 (rm_ok hb.out)
      have hri := hid (show ∀ y ∈ rmL X T, I64 y from fun y hy => by have := hok.2.2 y hy; unfold I64; omega)
      clear hok
      replace h1 := hid h1
      replace h2 := hid h2
      replace a3 := hid a3
      replace c2 := hid c2
      rw [hb.out]
      go_enter Try.func39, Try.ntmps39
      have own1 : Own (w.alloc (.cells #[] 3)) w.heap.size [intRowOf 3 (.slice (some ⟨w.heap.size, 0, none⟩) 0 0) []] := Own.litInts (xs := []) (Nat.le_refl _) rfl rfl (by simp) rfl
      have b1 : Below w.heap.size w (w.alloc (.cells #[] 3)) := (Below.refl _ w).alloc (Nat.le_refl _) _
      go_upto_region 2 with fail
      obtain ⟨B, hB0⟩ : ∃ b, b = w.heap.size := ⟨_, rfl⟩
      have hEx := hid (show ∀ u, Below B w u → Ext w u from fun u h => ⟨by rw [← hB0]; exact h⟩)
      have hBs := hid (show ∀ u, Below B w u → B ≤ u.heap.size from fun u h => by rw [hB0]; exact h.size)
      rw [← hB0] at own1 b1 ⊢
      replace hB0 := hid hB0
      generalize w.alloc (.cells #[] 3) = w1 at *
      have e1 : Ext w w1 := hEx.out _ b1
      have hB1 : B ≤ w1.heap.size := hBs.out _ b1
      have e01 : Ext w0 w1 := Ext.trans ‹Ext w0 w› e1
      go_wp2_with fail
      with_reducible refine (l3Gd_any (w0 := w0) (w := w1) hX').mono ?_
      rw [h1.out]
      rintro e w2 ⟨rfl, e2⟩
      have e02 : Ext w0 w2 := Ext.trans e01 e2
      go_wp2_with fail
      with_reducible refine (l3Order_any (w0 := w0) (w := w2) hT' a1).mono ?_
      rw [h2.out]
      rintro e w3 ⟨rfl, e3⟩
      have own1 := (own1.ext (w' := w2)).ext (w' := w3)
      have b1 : Below B w w3 := b1.trans (e2.below.mono hB1 |>.trans (e3.below.mono (Nat.le_trans hB1 e2.size)))
      go_wp2_with fail
      go_loopw [8, 9] (fun u i wr => ∃ t : Nat, t ≤ X.length ∧ i = .int .i64 t ∧ Own wr B [⟨3, 1, u, t, (rmL (X.take t) T).map (Value.int .i64)⟩] ∧ Below B w wr) (fun _ i _ => X.length - (intOf i).toNat)
      case atStart => exact ⟨0, by omega, rfl, own1, b1⟩
      case round =>
        clear own1 b1
        obtain ⟨t, ht, rfl, own, hb'⟩ := hrel
        obtain ⟨wo, rfl⟩ : ∃ y : World, y = wr := ⟨_, rfl⟩
        obtain ⟨dO, mO, hvO⟩ := own.form
        simp only at hvO
        subst hvO
        have hBo : B ≤ wo.heap.size := hBs.out _ hb'
        have eo : Ext w wo := hEx.out _ hb'
        have e0 : Ext w0 wo := Ext.trans ‹Ext w0 w› eo
        by_cases hlt : t < X.length
        · obtain ⟨bx, ox, hdx, hcx⟩ := hX'.at (w' := wo) hlt
          cases hdx
          have hxb := a3.out _ (nth_mem hlt)
          obtain ⟨q, hq⟩ : ∃ q : Nat, nth X t = q := ⟨(nth X t).toNat, by omega⟩
          rw [hq] at hcx hxb
          have hqT : q < T.length := by omega
          obtain ⟨bt, ot, hdt, hct⟩ := hT'.at (w' := wo) hqT
          cases hdt
          have hsu := hid (show rmL (X.take (t + 1)) T = rmL (X.take t) T ++ [nth T q] by
            rw [take_succ_nth hlt, rmL, List.map_append, hq]; rfl)
          obtain ⟨y, hy⟩ : ∃ y, y = nth T q := ⟨_, rfl⟩
          rw [← hy] at hct hsu
          replace hy := hid hy
          replace hq := hid hq
          go_wp2_with (at_builtin; refine wpList_append1 rfl _ _ _ rfl elemInt rfl own hBo rfl rfl (by omega) (by omega) ?_; intro v5 w5 ho5 hb5)
          go_roundw
          case rel => exact ⟨t + 1, by omega, by go_num, by rw [hsu.out, List.map_append]; exact ho5, hb'.trans hb5⟩
          case measure => simp [intOf]; omega
        · have htl : t = X.length := by omega
          have hr : IsInts wo (.slice dO t mO) (rmL X T) := by
            rw [htl, List.take_length] at own
            rw [htl]
            exact own.readsN (rmL_len X T) (by omega) hri.out
          clear own
          go_wp2_with fail
          go_ret2
          rw [hv.out]
          exact ⟨_, rfl, hr, eo⟩

set_option maxHeartbeats 800000 in
set_option maxRecDepth 100000 in
theorem specWn_any {vX : Value} {n w1 : Int} {X : List Int} {w0 w : World} [Ext w0 w] (hX : IsInts w0 vX X) (_hw : I64 w1) :
    Calls Try.prog 42 #[.int .i64 n, vX, .int .i64 w1] w fun e w' => ∃ u, e = .returned (.tuple #[u, .bool (wnB n X w1)]) ∧ IsInts w' u (wnR n X w1) ∧ Ext w w' := by
  have hX' := hX
  obtain ⟨dx, mx, rfl, lx⟩ := hX.form
  cases h1 : seqOk n X with
  | false =>
    have hb := hid (show wnB n X w1 = false by rw [wnB, h1]; rfl)
    have hv := hid (show wnR n X w1 = [] by rw [wnR, hb.out]; rfl)
    replace h1 := hid h1
    rw [hb.out]
    go_enter Try.func42, Try.ntmps42
    go_wp2_with fail
    with_reducible refine (l3Gd_any (w0 := w0) hX').mono ?_
    rw [h1.out]
    rintro e w2 ⟨rfl, e2⟩
    go_wp2_with fail
    go_ret2
    rw [hv.out]
    exact ⟨_, rfl, ints_nil _ _ _, Ext.trans inferInstance e2⟩
  | true =>
    obtain ⟨a1, a2, a3⟩ := seqOk_iff.1 h1
    cases h2 : inB w1 1 60 with
    | false =>
      have hb := hid (show wnB n X w1 = false by rw [wnB, h1, h2]; rfl)
      have hv := hid (show wnR n X w1 = [] by rw [wnR, hb.out]; rfl)
      replace h1 := hid h1
      replace h2 := hid h2
      rw [hb.out]
      go_enter Try.func42, Try.ntmps42
      go_wp2_with fail
      with_reducible refine (l3Gd_any (w0 := w0) hX').mono ?_
      rw [h1.out]
      rintro e w2 ⟨rfl, e2⟩
      go_wp2_with fail
      with_reducible refine (l1In_any _ _ _ _).mono ?_
      rw [h2.out]
      rintro e w3 ⟨rfl, rfl⟩
      go_wp2_with fail
      go_ret2
      rw [hv.out]
      exact ⟨_, rfl, ints_nil _ _ _, Ext.trans inferInstance e2⟩
    | true =>
      have hw1 := inB_true.1 h2
      have hb := hid (show wnB n X w1 = true by rw [wnB, h1, h2]; rfl)
      have hv := hid (show wnR n X w1 = wnTo X w1 X.length by rw [wnR, hb.out]; rfl)
      replace h1 := hid h1
      replace h2 := hid h2
      replace a3 := hid a3
      rw [hb.out]
      go_enter Try.func42, Try.ntmps42
      have own1 : Own (w.alloc (.cells #[] 3)) w.heap.size [intRowOf 3 (.slice (some ⟨w.heap.size, 0, none⟩) 0 0) []] := Own.litInts (xs := []) (Nat.le_refl _) rfl rfl (by simp) rfl
      have b1 : Below w.heap.size w (w.alloc (.cells #[] 3)) := (Below.refl _ w).alloc (Nat.le_refl _) _
      go_upto_region 2 with fail
      obtain ⟨B, hB0⟩ : ∃ b, b = w.heap.size := ⟨_, rfl⟩
      have hEx := hid (show ∀ u, Below B w u → Ext w u from fun u h => ⟨by rw [← hB0]; exact h⟩)
      have hBs := hid (show ∀ u, Below B w u → B ≤ u.heap.size from fun u h => by rw [hB0]; exact h.size)
      rw [← hB0] at own1 b1 ⊢
      replace hB0 := hid hB0
      generalize w.alloc (.cells #[] 3) = wq at *
      have e1 : Ext w wq := hEx.out _ b1
      have hB1 : B ≤ wq.heap.size := hBs.out _ b1
      have e01 : Ext w0 wq := Ext.trans ‹Ext w0 w› e1
      go_wp2_with fail
      with_reducible refine (l3Gd_any (w0 := w0) (w := wq) hX').mono ?_
      rw [h1.out]
      rintro e w2 ⟨rfl, e2⟩
      go_wp2_with fail
      with_reducible refine (l1In_any _ _ _ _).mono ?_
      rw [h2.out]
      rintro e w3 ⟨rfl, rfl⟩
      have own1 : Own w2 B [⟨3, 1, .slice (some ⟨B, 0, none⟩) 0 0, 0, (wnTo X w1 0).map (Value.int .i64)⟩] := own1.ext (w' := w2)
      have b1 : Below B w w2 := b1.trans (e2.below.mono hB1)
      go_wp2_with fail
      go_loopw [8, 9] (fun u i wr => ∃ t : Nat, t ≤ X.length ∧ i = .int .i64 t ∧ Own wr B [⟨3, 1, u, t, (wnTo X w1 t).map (Value.int .i64)⟩] ∧ Below B w wr) (fun _ i _ => X.length - (intOf i).toNat)
      case atStart => exact ⟨0, by omega, rfl, own1, b1⟩
      case round =>
        clear own1 b1
        obtain ⟨t, ht, rfl, own, hb'⟩ := hrel
        obtain ⟨wo, rfl⟩ : ∃ y : World, y = wr := ⟨_, rfl⟩
        obtain ⟨dO, mO, hvO⟩ := own.form
        simp only at hvO
        subst hvO
        have hBo : B ≤ wo.heap.size := hBs.out _ hb'
        have eo : Ext w wo := hEx.out _ hb'
        have e0 : Ext w0 wo := Ext.trans ‹Ext w0 w› eo
        by_cases hlt : t < X.length
        · obtain ⟨bx, ox, hdx, hcx⟩ := hX'.at (w' := wo) hlt
          cases hdx
          have hcp := hX'.cap
          obtain ⟨lo, hlo⟩ : ∃ lo : Nat, max 0 ((t : Int) - w1 + 1) = lo := ⟨(max 0 ((t : Int) - w1 + 1)).toNat, by omega⟩
          have hlt2 : lo ≤ t := by omega
          have hsl : IsInts wo (.slice (some ⟨bx, ox + lo, none⟩) (t + 1 - lo) (mx - lo)) (wnW X w1 t) := by
            have h1 := ((hX'.ext (w' := wo)).cut (show t + 1 ≤ X.length by omega)).tailAt (k := lo) (by rw [List.length_take]; omega)
            have h2 : wnW X w1 t = (X.take (t + 1)).drop lo := by rw [wnW, hlo]; simp
            rw [h2]
            exact h1
          have hsu := hid (wnTo_succ X w1 t)
          have hat : wnAt X w1 t = ((difL (wnW X w1 t)).length : Int) := rfl
          obtain ⟨W, hW⟩ : ∃ W, W = wnW X w1 t := ⟨_, rfl⟩
          rw [← hW] at hsl hat
          rw [hat] at hsu
          have hslf := hsl
          have hWl := hsl.len
          have hm1 : ¬ mx = lo := by omega
          have hm2 : ¬ mx < lo := by omega
          have hsl2 : IsInts wo (.slice (some ⟨bx, ox + lo, none⟩) W.length (mx - lo)) W := by rw [← hWl]; exact hsl
          have hWb : W.length ≤ 60 := by omega
          have hdl := difL_len W
          replace hW := hid hW
          clear hsl hslf
          go_wp2_with fail
          have hmost := l1Most_any 0 ((t : Int) - w1 + 1) wo
          rw [hlo] at hmost
          with_reducible refine hmost.mono ?_
          rintro e w4 ⟨rfl, rfl⟩
          go_wp2_with fail
          with_reducible refine (l3Different_any (w0 := wo) (w := wo) hsl2 (by omega)).mono ?_
          obtain ⟨D, hD⟩ : ∃ D, D = (difL W).length := ⟨_, rfl⟩
          rw [← hD] at hdl hsu ⊢
          rintro e w5 ⟨d5, m5, rfl, _, e5⟩
          replace hD := hid hD
          clear hat
          have own5 := own.ext (w' := w5)
          have b5 : Below B w w5 := hb'.trans (e5.below.mono hBo)
          have hB5 := hBs.out _ b5
          clear own
          go_wp2_with (at_builtin; refine wpList_append1 rfl _ _ _ rfl elemInt rfl own5 hB5 rfl rfl (by omega) (by omega) ?_; intro v6 w6 ho6 hb6)
          go_roundw
          case rel => exact ⟨t + 1, by omega, by go_num, by rw [hsu.out, List.map_append]; exact ho6, b5.trans hb6⟩
          case measure => simp [intOf]; omega
        · have htl : t = X.length := by omega
          have hr : IsInts wo (.slice dO t mO) (wnTo X w1 X.length) := by
            rw [htl] at own
            rw [htl]
            exact own.readsN (wnTo_len X w1 X.length) (by omega) (fun y hy => by
              obtain ⟨j, hj, rfl⟩ := List.mem_map.1 hy
              have := wnAt_in (w := w1) hw1.1 (List.mem_range.1 hj)
              unfold I64; omega)
          clear own
          go_wp2_with fail
          go_ret2
          rw [hv.out]
          exact ⟨_, rfl, hr, eo⟩
end Go.Proofs.Ytmabejallkjjmaa
