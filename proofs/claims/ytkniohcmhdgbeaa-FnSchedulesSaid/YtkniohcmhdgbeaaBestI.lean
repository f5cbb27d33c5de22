/- BestSchedule, as the program finds it. -/
import Derived.Test.YtkniohcmhdgbeaaBestW
import Derived.Test.YtkniohcmhdgbeaaRep
import Derived.Test.YtkniohcmhdgbeaaMark
import Derived.StillTailTactics
namespace Go.Proofs.Ytkniohcmhdgbeaa
open Go.RowKit

theorem Own.nils {w : World} {B e : Nat} {R : List Row} (h : Own w B R) : ∀ n, Own w B (List.zipWith (intRowOf e) (List.replicate n (.slice none 0 0)) (List.replicate n []) ++ R)
  | 0 => by simpa using h
  | n + 1 => by
    rw [List.replicate_succ, List.replicate_succ, List.zipWith_cons_cons, List.cons_append]
    exact (h.nils n).cons_nil _ _
theorem zipWith_set2 {α β γ : Type} (f : α → β → γ) : ∀ (l : List α) (m : List β) (j : Nat) (a : α) (b : β), (List.zipWith f l m).set j (f a b) = List.zipWith f (l.set j a) (m.set j b)
  | [], m, j, a, b => by simp
  | x :: l, [], j, a, b => by cases j <;> simp
  | x :: l, y :: m, 0, a, b => by simp
  | x :: l, y :: m, j + 1, a, b => by
    simp only [List.zipWith_cons_cons, List.set_cons_succ]
    rw [zipWith_set2 f l m j a b]
/-- a new row is laid into a list of rows -/
theorem rows_lay {w : World} {B e1 e2 g c n : Nat} {vs : List Value} {M : List (List Int)} {R : List Row} {rv : Value} {xs : List Int} (h : Own w B (intRowOf e2 rv xs :: (rowsOf e1 e2 (.slice (some ⟨g, 0, none⟩) n c) vs M ++ R))) (hn : vs.length = n) (hm : M.length = n) {i : Nat} (hi : i < n) :
    Own (w.setCell ⟨g, i, none⟩ rv) B (rowsOf e1 e2 (.slice (some ⟨g, 0, none⟩) n c) (vs.set i rv) (M.set i xs) ++ R) := by
  subst hn
  have h1 : Own w B (⟨e1, 1, .slice (some ⟨g, 0, none⟩) vs.length c, vs.length, vs⟩ :: (intRowOf e2 rv xs :: (List.zipWith (intRowOf e2) vs M ++ R))) := h.perm (List.Perm.swap _ _ _)
  have h2 := h1.set i rv
  have hl : i < (List.zipWith (intRowOf e2) vs M).length := by rw [List.length_zipWith]; omega
  have e : rowsOf e1 e2 (.slice (some ⟨g, 0, none⟩) vs.length c) (vs.set i rv) (M.set i xs) = (⟨e1, 1, .slice (some ⟨g, 0, none⟩) vs.length c, vs.length, vs.set i rv⟩ : Row) :: (List.zipWith (intRowOf e2) vs M).set i (intRowOf e2 rv xs) := by
    rw [zipWith_set2]
    unfold rowsOf valRowOf
    rw [List.length_set]
  rw [e, List.cons_append]
  have p := perm_set (List.zipWith (intRowOf e2) vs M) i (intRowOf e2 rv xs) hl
  have s : List.Sublist ((⟨e1, 1, .slice (some ⟨g, 0, none⟩) vs.length c, vs.length, vs.set i rv⟩ : Row) :: (intRowOf e2 rv xs :: ((List.zipWith (intRowOf e2) vs M).eraseIdx i ++ R))) ((⟨e1, 1, .slice (some ⟨g, 0, none⟩) vs.length c, vs.length, vs.set i rv⟩ : Row) :: (intRowOf e2 rv xs :: (List.zipWith (intRowOf e2) vs M ++ R))) :=
    ((List.Sublist.append_right (List.eraseIdx_sublist _ _) R).cons_cons _).cons_cons _
  have h3 := h2.sub s
  exact h3.perm ((p.append_right R).cons _)
theorem lfTab_none (M S : List (List Int)) (X : List Int) : lfTab M S X (X.length + 1) = List.replicate (X.length + 1) [] := by
  refine eq_of_row (by rw [lfTab_length, List.length_replicate]) fun j hj => ?_
  rw [lfTab_length] at hj
  rw [row_lfTab hj, if_pos hj]
  simp [row, hj]
theorem lfTab_read {M S : List (List Int)} {s : Int} {X : List Int} (h : startB M S s X = true) : ShortRows (lfTab M S X 0).length ∧ (∀ r ∈ lfTab M S X 0, Short r.length) ∧ ∀ r ∈ lfTab M S X 0, ∀ x ∈ r, I64 x := by
  have hl := startB_len h
  have hn := probB_len (startB_prob h)
  refine ⟨by rw [lfTab_length]; unfold ShortRows; omega, fun r hr => ?_, fun r hr => ?_⟩
  all_goals
    obtain ⟨j, hj, rfl⟩ := mem_iff_row.1 hr
    rw [lfTab_length] at hj
    rw [row_lfTab hj, if_neg (by omega)]
  · rw [lfFull_length]; unfold Short; omega
  · exact lfFull_i64 h j
/-- the table's rows, and what lies beside them -/
abbrev lfRows (g n : Nat) (vs : List Value) (T : List (List Int)) : List Row := rowsOf 29 3 (.slice (some ⟨g, 0, none⟩) n n) vs T ++ []
theorem lf_head {w : World} {B g n : Nat} {vs : List Value} {T : List (List Int)} (h : Own w B (lfRows g n vs T)) (hv : vs.length = n) : Own w B (⟨29, 1, .slice (some ⟨g, 0, none⟩) n n, n, vs⟩ :: (List.zipWith (intRowOf 3) vs T ++ [])) := by
  have h' := h
  unfold lfRows rowsOf valRowOf at h'
  rw [hv] at h'
  exact h'
theorem lf_cell {w : World} {B g n : Nat} {vs : List Value} {T : List (List Int)} (h : Own w B (lfRows g n vs T)) (hv : vs.length = n) {j : Nat} {u : Value} (hu : vs[j]? = some u) :
    w.cell? ⟨g, j, none⟩ = some u ∧ w.frozen? ⟨g, j, none⟩ = false := by
  have hhead := lf_head h hv
  have hj : j < n := by rw [← hv]; exact (List.getElem?_eq_some_iff.1 hu).1
  refine ⟨?_, hhead.frozenAt j⟩
  rw [hhead.cellAt (w' := w) hj, List.getD_eq_getElem?_getD, hu]; rfl
theorem lf_pick {w : World} {B g n : Nat} {vs : List Value} {T : List (List Int)} (h : Own w B (lfRows g n vs T)) (ht : T.length = n) {j : Nat} (hj : j < n) {u : Value} (hu : vs[j]? = some u) :
    Own w B (intRowOf 3 u (row T j) :: (lfRows g n vs T).eraseIdx (j + 1)) := by
  have hr : T[j]? = some (row T j) := by simp [row, show j < T.length by omega]
  exact h.pick (h.rowAt hr hu)
theorem lf_blk {w : World} {B g n : Nat} {vs : List Value} {T : List (List Int)} (h : Own w B (lfRows g n vs T)) (hv : vs.length = n) (ht : T.length = n) {j : Nat} (hj : j < n) (h0 : 0 < (row T j).length) :
    ∃ gk mk, vs[j]? = some (.slice (some ⟨gk, 0, none⟩) (row T j).length mk) ∧ B ≤ gk := by
  obtain ⟨u, hu⟩ : ∃ u, vs[j]? = some u := ⟨_, List.getElem?_eq_getElem (by omega)⟩
  have hpick := lf_pick h ht hj hu
  obtain ⟨d, m, hd⟩ := hpick.form
  have hd' : u = .slice d (row T j).length m := hd
  subst hd'
  obtain ⟨gk, rfl⟩ := hpick.at h0
  exact ⟨gk, m, hu, hpick.lt.1⟩
theorem lf_at {w : World} {B g n gk l mk : Nat} {vs : List Value} {T : List (List Int)} (h : Own w B (lfRows g n vs T)) (ht : T.length = n) {j : Nat} (hj : j < n) (hu : vs[j]? = some (.slice (some ⟨gk, 0, none⟩) l mk)) (hl : (row T j).length = l) {q : Nat} (hq : q < l) :
    w.cell? ⟨gk, q, none⟩ = some (.int .i64 (nth (row T j) q)) ∧ w.frozen? ⟨gk, q, none⟩ = false := by
  subst hl
  have hpick := lf_pick h ht hj hu
  refine ⟨?_, hpick.frozenAt q⟩
  have := hpick.cellAt (w' := w) hq
  rw [this]
  simp [nth, hq]
theorem lf_put {w : World} {B g n gk l mk : Nat} {vs : List Value} {T : List (List Int)} {L : Row} (h : Own w B (L :: lfRows g n vs T)) (hv : vs.length = n) (ht : T.length = n) {j : Nat} (hj : j < n) (hu : vs[j]? = some (.slice (some ⟨gk, 0, none⟩) l mk)) (hl : (row T j).length = l) (q : Nat) (u : Value) {xs : List Int} (hx : ((row T j).map (Value.int .i64)).set q u = xs.map (Value.int .i64)) (hxl : xs.length = l) :
    Own (w.setCell ⟨gk, q, none⟩ u) B (L :: lfRows g n vs (T.set j xs)) := by
  subst hl
  have h2 : Own w B (rowsOf 29 3 (.slice (some ⟨g, 0, none⟩) n n) vs T ++ [L]) := by
    have e0 : lfRows g n vs T = rowsOf 29 3 (.slice (some ⟨g, 0, none⟩) n n) vs T := List.append_nil _
    rw [e0] at h
    exact Own.swap (R := [L]) h
  have hr : T[j]? = some (row T j) := by simp [row, show j < T.length by omega]
  have hpick := (h2.pick (h2.rowAt hr hu)).set q u
  rw [hx] at hpick
  have e : (⟨3, 1, .slice (some ⟨gk, 0, none⟩) (row T j).length mk, (row T j).length, xs.map (Value.int .i64)⟩ : Row) = intRowOf 3 (.slice (some ⟨gk, 0, none⟩) (row T j).length mk) xs := by
    unfold intRowOf
    rw [hxl]
  rw [e] at hpick
  have h' := hpick.put (by unfold rowsOf; simp; omega)
  rw [rowsOf_set (by omega) hu] at h'
  have h3 := Own.swap h'
  have h4 := h3.nilr
  rw [List.append_assoc] at h4
  exact h4

set_option maxHeartbeats 3200000 in
set_option maxRecDepth 100000 in
theorem implBest_any {v vX : Value} {M S : List (List Int)} {X : List Int} {s : Int} {w0 w : World} [Ext w0 w] (hp : IsProb w0 v M S) (_hs : I64 s) (hX : IsInts w0 vX X) :
    Calls Try.prog 18 #[v, .int .i64 s, vX] w fun e w' => ∃ d0 m0, e = .returned (.tuple #[.slice d0 (bestS M S s X).length m0, .bool (startB M S s X)]) ∧ Own w' w.heap.size [intRowOf 3 (.slice d0 (bestS M S s X).length m0) (bestS M S s X)] ∧ Ext w w' := by
  have hp' := hp
  obtain ⟨v1, v2, rfl, hM, hS⟩ := hp
  have hM' := hM
  have hS' := hS
  obtain ⟨a1, c1, rfl, l1⟩ := hM.form
  obtain ⟨a2, c2, rfl, l2⟩ := hS.form
  have hX' := hX
  obtain ⟨aX, cX, rfl, lX⟩ := hX.form
  cases hB0 : startB M S s X with
  | false =>
    have hr := hid (hB0)
    have hz0 := hid (bestS_false hr.out)
    replace hB0 := hid hB0
    go_enter Try.func18, Try.ntmps18
    go_wp2_with fail
    refine (isStarted_any (w0 := w0) hp' hX').mono ?_; rw [hB0.out]; rintro e w1 ⟨rfl, hb1⟩
    have e1 : Ext w w1 := Ext.trans inferInstance hb1
    clear hb1
    go_wp2_with fail
    go_ret2
    rw [hz0.out]
    exact ⟨_, _, rfl, own_nils_i _ _, Ext.trans e1 inferInstance⟩
  | true =>
    have hst := hid hB0
    replace hB0 := hid hB0
    have hv0 := hid (bestS_true hst.out)
    have hpr := hid (startB_prob hst.out)
    have hn := hid (probB_len hpr.out)
    have hxl := hid (startB_len hst.out)
    go_enter Try.func18, Try.ntmps18
    go_wp2_with fail
    refine (isStarted_any (w0 := w0) hp' hX').mono ?_; rw [hB0.out]; rintro e w1 ⟨rfl, hb1⟩
    have x0 : w1.cell? ⟨w.heap.size, 0, none⟩ = some (.slice a1 M.length c1) := hb1.cell (by go_simp)
    have x1 : w1.cell? ⟨w.heap.size, 1, none⟩ = some (.slice a2 S.length c2) := hb1.cell (by go_simp)
    have e1 : Ext w w1 := Ext.trans inferInstance hb1
    clear hb1
    have hwlt : w.heap.size < w1.heap.size := World.block_lt_of_cell? w1 ⟨w.heap.size, 0, none⟩ x0
    go_upto_region 4 with (at_make; refine wpList_makeOwn rfl _ _ _ rfl elemInts (X.length + 1) rfl rfl (by have := hxl.out; omega) (by have := hxl.out; omega) rfl ?_; intro hown)
    have eW1 : Ext w1 (w1.alloc (.cells (Array.replicate (X.length + 1) (.slice none 0 0)) 29)) := inferInstance
    obtain ⟨B, hB⟩ : ∃ B, B = w1.heap.size := ⟨_, rfl⟩
    generalize w1.alloc (.cells (Array.replicate (X.length + 1) (.slice none 0 0)) 29) = W3 at *
    rw [← hB] at hown hwlt ⊢
    have hB3 : B ≤ W3.heap.size := by rw [hB]; exact eW1.size
    have e3 : Ext w W3 := Ext.trans e1 eW1
    have z0 := eW1.cell x0
    have z1 := eW1.cell x1
    have hcK : W3.cell? ⟨B, X.length, none⟩ = some (.slice none 0 0) := by
      rw [hown.cellAt (w' := W3) (j := X.length) (by omega)]
      simp
    have hfK : W3.frozen? ⟨B, X.length, none⟩ = false := hown.frozenAt X.length
    have hcK2 : (W3.alloc (.cells (Array.replicate M.length (.int .i64 0)) 3)).cell? ⟨B, X.length, none⟩ = some (.slice none 0 0) := Ext.cell (a := W3) inferInstance hcK
    have hfK2 : (W3.alloc (.cells (Array.replicate M.length (.int .i64 0)) 3)).frozen? ⟨B, X.length, none⟩ = false := (hown.ext (w' := W3.alloc (.cells (Array.replicate M.length (.int .i64 0)) 3))).frozenAt X.length
    replace hB := hid hB
    go_upto_region 5 with (at_make; refine wpList_makeOwn rfl _ _ _ rfl elemInt M.length rfl rfl (by have := hn.out; omega) (by have := hn.out; omega) rfl ?_; intro hown4)
    have own5 : Own ((W3.alloc (.cells (Array.replicate M.length (.int .i64 0)) 3)).setCell ⟨B, X.length, none⟩ (.slice (some ⟨W3.heap.size, 0, none⟩) M.length M.length)) B (lfRows B (X.length + 1) ((List.replicate (X.length + 1) (.slice none 0 0)).set X.length (.slice (some ⟨W3.heap.size, 0, none⟩) M.length M.length)) (lfTab M S X X.length)) := by
      have q1 := (Own.nils (e := 3) hown (X.length + 1))
      have q2 : Own W3 B (lfRows B (X.length + 1) (List.replicate (X.length + 1) (.slice none 0 0)) (lfTab M S X (X.length + 1))) := by
        rw [lfTab_none]
        have q3 := (Own.swap q1).nilr
        have e : lfRows B (X.length + 1) (List.replicate (X.length + 1) (.slice none 0 0)) (List.replicate (X.length + 1) []) = (⟨29, 1, .slice (some ⟨B, 0, none⟩) (X.length + 1) (X.length + 1), X.length + 1, List.replicate (X.length + 1) (.slice none 0 0)⟩ : Row) :: (List.zipWith (intRowOf 3) (List.replicate (X.length + 1) (.slice none 0 0)) (List.replicate (X.length + 1) []) ++ []) := by
          unfold lfRows rowsOf valRowOf
          rw [List.length_replicate]
          rfl
        rw [e]
        exact q3
      have q4 : Own (W3.alloc (.cells (Array.replicate M.length (.int .i64 0)) 3)) W3.heap.size [intRowOf 3 (.slice (some ⟨W3.heap.size, 0, none⟩) M.length M.length) (lfFull M S (X.drop X.length))] := by
        have e : X.drop X.length = [] := by simp
        rw [e, lfFull_nil hpr.out]
        unfold intRowOf
        rw [List.length_replicate, List.map_replicate]
        exact hown4
      have q5 : Own (W3.alloc (.cells (Array.replicate M.length (.int .i64 0)) 3)) B (intRowOf 3 (.slice (some ⟨W3.heap.size, 0, none⟩) M.length M.length) (lfFull M S (X.drop X.length)) :: lfRows B (X.length + 1) (List.replicate (X.length + 1) (.slice none 0 0)) (lfTab M S X (X.length + 1))) := Own.add q4 q2 inferInstance hB3
      have q6 := rows_lay q5 (by simp) (by rw [lfTab_length]) (i := X.length) (by omega)
      rw [lfTab_set (by omega)] at q6
      exact q6
    have eW5 : Below B W3 ((W3.alloc (.cells (Array.replicate M.length (.int .i64 0)) 3)).setCell ⟨B, X.length, none⟩ (.slice (some ⟨W3.heap.size, 0, none⟩) M.length M.length)) := ((Below.refl B W3).alloc hB3 _).setCell (Nat.le_refl _) _
    generalize (W3.alloc (.cells (Array.replicate M.length (.int .i64 0)) 3)).setCell ⟨B, X.length, none⟩ (.slice (some ⟨W3.heap.size, 0, none⟩) M.length M.length) = W at *
    have hvs0 : ((List.replicate (X.length + 1) (Value.slice none 0 0)).set X.length (.slice (some ⟨W3.heap.size, 0, none⟩) M.length M.length)).length = X.length + 1 := by simp
    generalize (List.replicate (X.length + 1) (Value.slice none 0 0)).set X.length (.slice (some ⟨W3.heap.size, 0, none⟩) M.length M.length) = vs0 at *
    have k0 : W.cell? ⟨w.heap.size, 0, none⟩ = some (.slice a1 M.length c1) := (eW5.cell (p := ⟨w.heap.size, 0, none⟩) hwlt).trans z0
    have k1 : W.cell? ⟨w.heap.size, 1, none⟩ = some (.slice a2 S.length c2) := (eW5.cell (p := ⟨w.heap.size, 1, none⟩) hwlt).trans z1
    have eWW : Below w1.heap.size w1 W := by
      have := eW1.below
      rw [← hB.out] at this ⊢
      exact this.trans eW5
    rw [← hB.out] at eWW
    have hwB : w.heap.size ≤ B := Nat.le_of_lt hwlt
    have eW : Ext w W := ⟨e1.below.trans (eWW.mono hwB)⟩
    replace hwlt := hid hwlt
    replace hvs0 := hid hvs0
    clear hown hown4 hcK hfK hcK2 hfK2 z0 z1 eW5 e3 hB3 eW1
    go_wp2
    go_loopw [9] (fun i wr => ∃ k : Nat, k ≤ X.length ∧ i = .int .i64 ((k : Int) - 1) ∧ Below B W wr ∧ ∃ vs, vs.length = X.length + 1 ∧ Own wr B (lfRows B (X.length + 1) vs (lfTab M S X k))) (fun i _ => (intOf i + 1).toNat)
    case atStart => exact ⟨X.length, by omega, by go_num, Below.refl _ _, vs0, hvs0.out, own5⟩
    case round =>
      obtain ⟨k, hk, rfl, hb0, vs, hvs, hown⟩ := hrel
      obtain ⟨wo, rfl⟩ : ∃ x : World, x = wr := ⟨_, rfl⟩
      cases k with
      | zero =>
        rw [show (((0 : Nat) : Int) - 1) = (-1 : Int) by omega]
        have eo : Ext w wo := ⟨eW.below.trans (hb0.mono hwB)⟩
        have y0 : wo.cell? ⟨w.heap.size, 0, none⟩ = some (.slice a1 M.length c1) := (hb0.cell (p := ⟨w.heap.size, 0, none⟩) hwlt.out).trans k0
        have y1 : wo.cell? ⟨w.heap.size, 1, none⟩ = some (.slice a2 S.length c2) := (hb0.cell (p := ⟨w.heap.size, 1, none⟩) hwlt.out).trans k1
        go_upto_region 19 with fail
        have own7 : Own (wo.alloc (.cells #[] 3)) wo.heap.size [intRowOf 3 (.slice (some ⟨wo.heap.size, 0, none⟩) ([] : List Int).length 0) (bsTo M S s X 0)] := Own.litInts (Nat.le_refl _) rfl rfl (Nat.zero_le _) rfl
        have e7 : Ext wo (wo.alloc (.cells #[] 3)) := inferInstance
        generalize wo.alloc (.cells #[] 3) = W7 at *
        replace hvs := hid hvs
        go_wp2
        go_loopw [1, 13, 105] (fun q v i wr => ∃ k : Nat, k ≤ X.length ∧ i = .int .i64 k ∧ q = .int .i64 (bsAt M S s X k) ∧ Own wr wo.heap.size [intRowOf 3 v (bsTo M S s X k)] ∧ Below wo.heap.size W7 wr) (fun _ _ i _ => X.length - (intOf i).toNat)
        case atStart => exact ⟨0, by omega, rfl, rfl, own7, Below.refl _ _⟩
        case round =>
          obtain ⟨k, hk, rfl, rfl, hownk, hb7⟩ := hrel
          obtain ⟨vd, vm, rfl⟩ := hownk.formInts
          obtain ⟨wp, rfl⟩ : ∃ x : World, x = wr := ⟨_, rfl⟩
          have eop : Ext wo wp := ⟨e7.below.trans hb7⟩
          have ewp : Ext w wp := Ext.trans eo eop
          have e0 : Ext w0 wp := Ext.trans ‹Ext w0 w› ewp
          have z0 := eop.cell y0
          have z1 := eop.cell y1
          by_cases hlt : k < X.length
          · obtain ⟨b3, o3, rfl, hc3⟩ := hX.at (w' := wp) hlt
            have hr := startB_req hst.out hlt
            have ha := bsAt_in hst.out (k := k) hk
            have hsucc := hid (bsTo_succ M S s X k)
            have hs1 := hid (show bsAt M S s X (k + 1) = bestAt M S (bsAt M S s X k) (nth X k) (X.drop (k + 1)) from rfl)
            have hlen := hid (bsTo_length M S s X k)
            obtain ⟨r, hr'⟩ := Int.eq_ofNat_of_zero_le hr.1
            obtain ⟨a, ha'⟩ := Int.eq_ofNat_of_zero_le ha.1
            have haM : a < M.length := by omega
            have hrS : r < S.length := by omega
            have hrI := hid (show (0 : Int) ≤ (r : Int) ∧ (r : Int) < S.length by omega)
            have haI := hid (show (0 : Int) ≤ (a : Int) ∧ (a : Int) < M.length by omega)
            have hrow := hid (probB_row hpr.out hrS).1
            obtain ⟨i0, hi0, hp1, hp2, hp3⟩ := best_place hst.out hlt haM
            have hoin := hid (fun (y : Nat) (hy : y < M.length) => opt_in hst.out hy (k + 1))
            have hL4 : (servedL (row S r)).length ≤ 4 := by
              have := servedTo_length (row S r) (row S r).length
              have h1 := hrow.out
              have h2 := hn.out
              unfold servedL
              omega
            have hLi : Hid (∀ x ∈ servedL (row S r), I64 x) := servedTo_i64 (cs := row S r) (k := (row S r).length) (by have := hrow.out; have := hn.out; omega)
            have hLm := hid (fun t (h : t ∈ servedL (row S r)) => servedL_lt h)
            rw [hr', Int.toNat_natCast] at hi0 hp1 hp2 hp3
            rw [hr'] at hc3
            rw [ha'] at hs1 ⊢
            rw [hr', hp1] at hs1
            have hTl := hid (lfTab_length M S X 0)
            have hT1 := hid (row_lfTab (M := M) (S := S) (X := X) (i := 0) (j := k) (by omega))
            have hT2 := hid (row_lfTab (M := M) (S := S) (X := X) (i := 0) (j := k + 1) (by omega))
            rw [if_neg (by omega)] at hT1 hT2
            obtain ⟨gk, mk, huk, _⟩ := lf_blk hown hvs.out hTl.out (j := k) (by omega) (by rw [hT1.out, lfFull_length]; exact hn.out.1)
            obtain ⟨gn, mn, hun, _⟩ := lf_blk hown hvs.out hTl.out (j := k + 1) (by omega) (by rw [hT2.out, lfFull_length]; exact hn.out.1)
            rw [hT1.out, lfFull_length] at huk
            rw [hT2.out, lfFull_length] at hun
            have hz := bsAt_in hst.out (k := k + 1) (by omega)
            replace hr' := hid hr'
            replace ha' := hid ha'
            replace hp3 := hid hp3
            replace hp2 := hid hp2
            replace huk := hid huk
            replace hun := hid hun
            clear hr ha hp1
            generalize hO : bsTo M S s X k = O at *
            replace hO := hid hO
            go_wp2_with fail
            refine (served_any (w0 := wp) (hM'.ext (w' := wp)) (hS'.ext (w' := wp)) hrI.out.1 hrI.out.2).mono ?_
            rw [Int.toNat_natCast]
            rintro e w4 ⟨sd, sm, rfl, ownL, hb4⟩
            have hLr := ownL.reads (by unfold Short; omega) hLi.out
            generalize hLL : servedL (row S r) = L at *
            replace hLL := hid hLL
            clear ownL
            go_wp2
            go_loopw [1, 13, 114] (fun pa pv i wi => ∃ q : Nat, q ≤ i0 ∧ i = .int .i64 q ∧ pa = .int .i64 a ∧ pv = .slice vd O.length vm ∧ Ext w4 wi) (fun _ _ i _ => L.length - (intOf i).toNat)
            case atStart => exact ⟨0, by omega, rfl, rfl, rfl, Ext.refl _⟩
            case round =>
              obtain ⟨q, hq0, rfl, rfl, rfl, hd⟩ := hrel
              have hql : q < L.length := by omega
              have e4 : Ext wp wr := Ext.trans hb4 hd
              have er0 : Ext w0 wr := Ext.trans e0 e4
              have v0 := e4.cell z0
              have v1 := e4.cell z1
              have eor : Ext wo wr := Ext.trans eop e4
              have hownr := hown.ext (w' := wr)
              obtain ⟨b9, o9, rfl, hc9⟩ := hLr.at (w' := wr) hql
              have hmem := hLm.out _ (nth_mem hql)
              rw [hrow.out] at hmem
              obtain ⟨t, ht⟩ := Int.eq_ofNat_of_zero_le hmem.1
              have htM : t < M.length := by omega
              rw [ht] at hc9
              have htI := hid (show (0 : Int) ≤ (t : Int) ∧ (t : Int) < M.length by omega)
              have vk := (lf_cell hownr hvs.out huk.out).1
              have vn := (lf_cell hownr hvs.out hun.out).1
              have vka := (lf_at hownr hTl.out (j := k) (by omega) huk.out (by rw [hT1.out, lfFull_length]) (q := a) haM).1
              have vnt := (lf_at hownr hTl.out (j := k + 1) (by omega) hun.out (by rw [hT2.out, lfFull_length]) (q := t) htM).1
              rw [hT1.out, nth_lfFull haM] at vka
              rw [hT2.out, nth_lfFull htM] at vnt
              have hbc := hid (show bestC M S a r (X.drop (k + 1)) t = stepC M S r a t + optL M S (row M t) (X.drop (k + 1)) by rw [bestC, Int.toNat_natCast])
              have hoq := hid (hoin.out t htM)
              have hsb : -1 ≤ stepC M S r a t ∧ stepC M S r a t ≤ 119 := by
                have b1 := probB_move hpr.out haM htM
                have b2 := probB_serve hpr.out hrS htM
                unfold stepC
                rw [Int.toNat_natCast, Int.toNat_natCast, Int.toNat_natCast]
                omega
              clear hmem
              by_cases hqi : q = i0
              · have heq : (stepC M S r a t + optL M S (row M t) (X.drop (k + 1)) == optL M S (row M a) (X.drop k)) = true := by
                  rw [← hbc.out, ← ht, hqi, hp2.out]; simp
                have hnext := hid (show (t : Int) = bsAt M S s X (k + 1) by rw [hs1.out, ← hqi, ht])
                replace ht := hid ht
                replace hqi := hid hqi
                clear hbc
                generalize hop : optL M S (row M t) (X.drop (k + 1)) = op at *
                replace hop := hid hop
                generalize hov : optL M S (row M a) (X.drop k) = ov at *
                replace hov := hid hov
                generalize hstp : stepC M S r a t = sp at *
                replace hstp := hid hstp
                go_upto_region 25 with fail
                have ed : Ext wr (wr).drew := inferInstance
                refine wp_region_held_drew (S := fun w' => Ext wr w' ∧ w'.cell? ⟨w.heap.size, 0, none⟩ = some (.slice a1 M.length c1) ∧ w'.cell? ⟨w.heap.size, 1, none⟩ = some (.slice a2 S.length c2) ∧ w'.cell? ⟨B, k, none⟩ = some (.slice (some ⟨gk, 0, none⟩) M.length mk) ∧ w'.cell? ⟨B, k + 1, none⟩ = some (.slice (some ⟨gn, 0, none⟩) M.length mn) ∧ w'.cell? ⟨gn, t, none⟩ = some (.int .i64 op) ∧ w'.cell? ⟨gk, a, none⟩ = some (.int .i64 ov)) (by kernel_rfl) ⟨ed, ed.cell v0, ed.cell v1, ed.cell vk, ed.cell vn, ed.cell vnt, ed.cell vka⟩ (fun hHeld0 => ?_)
                refine wpAnyH_take (i := 0) (v := .agg #[.slice a1 M.length c1, .slice a2 S.length c2]) rfl (by kernel_rfl) (by kernel_rfl) (by kernel_rfl) (fun _ _ _ h => h) (Or.inl ⟨by rfl, by intro wx hx; obtain ⟨_, _, _, _, _, _, _⟩ := hx; go_simp⟩) (by assumption) ?_
                try simp only [List.getElem_toArray, List.getElem_cons_zero, Act.put, List.setIfInBounds_toArray, List.set_cons_zero, List.set_cons_succ]
                refine wpAnyH_take (i := 1) (v := .int .i64 a) rfl (by kernel_rfl) (by kernel_rfl) (by kernel_rfl) (fun _ _ _ h => h) (Or.inl ⟨by rfl, by intro wx hx; go_simp⟩) (by assumption) ?_
                try simp only [List.getElem_toArray, List.getElem_cons_succ, List.getElem_cons_zero, Act.put, List.setIfInBounds_toArray, List.set_cons_zero, List.set_cons_succ]
                refine wpAnyH_take (i := 2) (v := .int .i64 t) rfl (by kernel_rfl) (by kernel_rfl) (by kernel_rfl) (fun _ _ _ h => h) (Or.inl ⟨by rfl, by intro wx hx; go_simp⟩) (by assumption) ?_
                try simp only [List.getElem_toArray, List.getElem_cons_succ, List.getElem_cons_zero, Act.put, List.setIfInBounds_toArray, List.set_cons_zero, List.set_cons_succ]
                refine wpAnyH_take (i := 3) (v := .int .i64 r) rfl (by kernel_rfl) (by kernel_rfl) (by kernel_rfl) (fun _ _ _ h => h) (Or.inl ⟨by rfl, by intro wx hx; go_simp⟩) (by assumption) ?_
                try simp only [List.getElem_toArray, List.getElem_cons_succ, List.getElem_cons_zero, Act.put, List.setIfInBounds_toArray, List.set_cons_zero, List.set_cons_succ]
                refine wpAnyH_take (i := 5) (v := .slice (some ⟨B, 0, none⟩) (X.length + 1) (X.length + 1)) rfl (by kernel_rfl) (by kernel_rfl) (by kernel_rfl) (fun _ _ _ h => h) (Or.inl ⟨by rfl, by intro wx hx; go_simp⟩) (by assumption) ?_
                try simp only [List.getElem_toArray, List.getElem_cons_succ, List.getElem_cons_zero, Act.put, List.setIfInBounds_toArray, List.set_cons_zero, List.set_cons_succ]
                refine wpAnyH_take (i := 6) (v := .int .i64 k) rfl (by kernel_rfl) (by kernel_rfl) (by kernel_rfl) (fun _ _ _ h => h) (Or.inl ⟨by rfl, by intro wx hx; go_simp⟩) (by assumption) ?_
                try simp only [List.getElem_toArray, List.getElem_cons_succ, List.getElem_cons_zero, Act.put, List.setIfInBounds_toArray, List.set_cons_zero, List.set_cons_succ]
                refine wpAnyH_take (i := 7) (v := .int .i64 ((k : Int) + 1)) rfl (by kernel_rfl) (by kernel_rfl) (by kernel_rfl) (fun _ _ _ h => h) (Or.inl ⟨by rfl, by intro wx hx; go_simp; exact IntWalk.i64_in _ (by have := hxl.out; omega)⟩) (by assumption) ?_
                try simp only [List.getElem_toArray, List.getElem_cons_succ, List.getElem_cons_zero, Act.put, List.setIfInBounds_toArray, List.set_cons_zero, List.set_cons_succ]
                refine wpAnyH_take (i := 8) (v := .pointer (some ⟨B, k + 1, none⟩)) rfl (by kernel_rfl) (by kernel_rfl) (by kernel_rfl) (fun _ _ _ h => h) (Or.inl ⟨by rfl, by intro wx hx; go_simp; intro hcc; omega⟩) (by assumption) ?_
                try simp only [List.getElem_toArray, List.getElem_cons_succ, List.getElem_cons_zero, Act.put, List.setIfInBounds_toArray, List.set_cons_zero, List.set_cons_succ]
                refine wpAnyH_take (i := 9) (v := .slice (some ⟨gn, 0, none⟩) M.length mn) rfl (by kernel_rfl) (by kernel_rfl) (by kernel_rfl) (fun _ _ _ h => h) (Or.inl ⟨by rfl, by intro wx hx; obtain ⟨_, _, _, _, _, _, _⟩ := hx; go_simp⟩) (by assumption) ?_
                try simp only [List.getElem_toArray, List.getElem_cons_succ, List.getElem_cons_zero, Act.put, List.setIfInBounds_toArray, List.set_cons_zero, List.set_cons_succ]
                refine wpAnyH_take (i := 10) (v := .int .i64 t) rfl (by kernel_rfl) (by kernel_rfl) (by kernel_rfl) (fun _ _ _ h => h) (Or.inl ⟨by rfl, by intro wx hx; go_simp⟩) (by assumption) ?_
                try simp only [List.getElem_toArray, List.getElem_cons_succ, List.getElem_cons_zero, Act.put, List.setIfInBounds_toArray, List.set_cons_zero, List.set_cons_succ]
                refine wpAnyH_take (i := 11) (v := .pointer (some ⟨gn, t, none⟩)) rfl (by kernel_rfl) (by kernel_rfl) (by kernel_rfl) (fun _ _ _ h => h) (Or.inl ⟨by rfl, by intro wx hx; go_simp⟩) (by assumption) ?_
                try simp only [List.getElem_toArray, List.getElem_cons_succ, List.getElem_cons_zero, Act.put, List.setIfInBounds_toArray, List.set_cons_zero, List.set_cons_succ]
                refine wpAnyH_take (i := 12) (v := .int .i64 op) rfl (by kernel_rfl) (by kernel_rfl) (by kernel_rfl) (fun _ _ _ h => h) (Or.inl ⟨by rfl, by intro wx hx; obtain ⟨_, _, _, _, _, _, _⟩ := hx; go_simp⟩) (by assumption) ?_
                try simp only [List.getElem_toArray, List.getElem_cons_succ, List.getElem_cons_zero, Act.put, List.setIfInBounds_toArray, List.set_cons_zero, List.set_cons_succ]
                refine wpAnyH_take (i := 14) (v := .slice (some ⟨B, 0, none⟩) (X.length + 1) (X.length + 1)) rfl (by kernel_rfl) (by kernel_rfl) (by kernel_rfl) (fun _ _ _ h => h) (Or.inl ⟨by rfl, by intro wx hx; go_simp⟩) (by assumption) ?_
                try simp only [List.getElem_toArray, List.getElem_cons_succ, List.getElem_cons_zero, Act.put, List.setIfInBounds_toArray, List.set_cons_zero, List.set_cons_succ]
                refine wpAnyH_take (i := 15) (v := .int .i64 k) rfl (by kernel_rfl) (by kernel_rfl) (by kernel_rfl) (fun _ _ _ h => h) (Or.inl ⟨by rfl, by intro wx hx; go_simp⟩) (by assumption) ?_
                try simp only [List.getElem_toArray, List.getElem_cons_succ, List.getElem_cons_zero, Act.put, List.setIfInBounds_toArray, List.set_cons_zero, List.set_cons_succ]
                refine wpAnyH_take (i := 16) (v := .pointer (some ⟨B, k, none⟩)) rfl (by kernel_rfl) (by kernel_rfl) (by kernel_rfl) (fun _ _ _ h => h) (Or.inl ⟨by rfl, by intro wx hx; go_simp; intro hcc; omega⟩) (by assumption) ?_
                try simp only [List.getElem_toArray, List.getElem_cons_succ, List.getElem_cons_zero, Act.put, List.setIfInBounds_toArray, List.set_cons_zero, List.set_cons_succ]
                refine wpAnyH_take (i := 17) (v := .slice (some ⟨gk, 0, none⟩) M.length mk) rfl (by kernel_rfl) (by kernel_rfl) (by kernel_rfl) (fun _ _ _ h => h) (Or.inl ⟨by rfl, by intro wx hx; obtain ⟨_, _, _, _, _, _, _⟩ := hx; go_simp⟩) (by assumption) ?_
                try simp only [List.getElem_toArray, List.getElem_cons_succ, List.getElem_cons_zero, Act.put, List.setIfInBounds_toArray, List.set_cons_zero, List.set_cons_succ]
                refine wpAnyH_take (i := 18) (v := .int .i64 a) rfl (by kernel_rfl) (by kernel_rfl) (by kernel_rfl) (fun _ _ _ h => h) (Or.inl ⟨by rfl, by intro wx hx; go_simp⟩) (by assumption) ?_
                try simp only [List.getElem_toArray, List.getElem_cons_succ, List.getElem_cons_zero, Act.put, List.setIfInBounds_toArray, List.set_cons_zero, List.set_cons_succ]
                refine wpAnyH_take (i := 19) (v := .pointer (some ⟨gk, a, none⟩)) rfl (by kernel_rfl) (by kernel_rfl) (by kernel_rfl) (fun _ _ _ h => h) (Or.inl ⟨by rfl, by intro wx hx; go_simp⟩) (by assumption) ?_
                try simp only [List.getElem_toArray, List.getElem_cons_succ, List.getElem_cons_zero, Act.put, List.setIfInBounds_toArray, List.set_cons_zero, List.set_cons_succ]
                refine wpAnyH_take (i := 20) (v := .int .i64 ov) rfl (by kernel_rfl) (by kernel_rfl) (by kernel_rfl) (fun _ _ _ h => h) (Or.inl ⟨by rfl, by intro wx hx; obtain ⟨_, _, _, _, _, _, _⟩ := hx; go_simp⟩) (by assumption) ?_
                try simp only [List.getElem_toArray, List.getElem_cons_succ, List.getElem_cons_zero, Act.put, List.setIfInBounds_toArray, List.set_cons_zero, List.set_cons_succ]
                refine wpAnyH_ready (rs := [4]) (by kernel_rfl) (by simp) ?_
                refine AllReadyH.cons rfl (fun K hK => ?_) AllReadyH.nil
                go_simp
                go_at_call 52
                refine (cost_any (s := t) (w0 := wr) (hM'.ext (w' := wr)) (hS'.ext (w' := wr)) hpr.out hrI.out.1 hrI.out.2 haI.out.1 haI.out.2 htI.out.1 htI.out.2).mono ?_
                rw [hstp.out]
                rintro e w5 ⟨rfl, hb6⟩
                go_wp2_with fail
                have er1 : Ext wr w5 := Ext.trans ed hb6
                refine hK.out _ _ ⟨er1, er1.cell v0, er1.cell v1, er1.cell vk, er1.cell vn, er1.cell vnt, er1.cell vka⟩ (fun hHeld1 => ?_)
                clear hK K hHeld0
                try simp only [List.getElem_toArray, List.getElem_cons_succ, List.getElem_cons_zero, Act.put, List.setIfInBounds_toArray, List.set_cons_zero, List.set_cons_succ]
                refine wpAnyH_take (i := 13) (v := .int .i64 (sp + op)) rfl (by kernel_rfl) (by kernel_rfl) (by kernel_rfl) (fun _ _ _ h => h) (Or.inl ⟨by rfl, by intro wx hx; go_simp; exact IntWalk.i64_in _ (by have := hoq.out; omega)⟩) (by assumption) ?_
                try simp only [List.getElem_toArray, List.getElem_cons_succ, List.getElem_cons_zero, Act.put, List.setIfInBounds_toArray, List.set_cons_zero, List.set_cons_succ]
                refine wpAnyH_take (i := 21) (v := .bool true) rfl (by kernel_rfl) (by kernel_rfl) (by kernel_rfl) (fun _ _ _ h => h) (Or.inl ⟨by rfl, by intro wx hx; go_simp⟩) (by assumption) ?_
                try simp only [List.getElem_toArray, List.getElem_cons_succ, List.getElem_cons_zero, Act.put, List.setIfInBounds_toArray, List.set_cons_zero, List.set_cons_succ]
                refine wpAnyH_done (by kernel_rfl) ?_ _
                have e45 : Ext wp w5 := Ext.trans e4 er1
                have hownx := hownk.ext (w' := w5)
                have hb8 : Below wo.heap.size W7 w5 := hb7.trans ((Ext.trans e4 er1).below.mono eop.size)
                have hB8 : wo.heap.size ≤ w5.heap.size := Nat.le_trans eop.size (Ext.trans e4 er1).size
                have hO60 : O.length ≤ 60 := by have := hlen.out; have := hxl.out; omega
                go_wp2_with (at_builtin; refine wpList_append1 rfl _ _ _ rfl elemInt rfl hownx hB8 rfl rfl (by omega) (by omega) ?_; intro v1 w6 ho hb9)
                go_roundw
                case rel => exact ⟨k + 1, by omega, by go_num, by rw [hnext.out], by rw [hsucc.out, ← hnext.out]; exact own_snoc ho rfl, hb8.trans hb9⟩
                case measure => simp [intOf]; omega
              · have heq : (stepC M S r a t + optL M S (row M t) (X.drop (k + 1)) == optL M S (row M a) (X.drop k)) = false := by
                  have h9 := hp3.out q (by omega)
                  rw [ht, hbc.out] at h9
                  simpa using h9
                replace ht := hid ht
                clear hbc
                generalize hop : optL M S (row M t) (X.drop (k + 1)) = op at *
                replace hop := hid hop
                generalize hov : optL M S (row M a) (X.drop k) = ov at *
                replace hov := hid hov
                generalize hstp : stepC M S r a t = sp at *
                replace hstp := hid hstp
                go_upto_region 25 with fail
                have ed : Ext wr (wr).drew := inferInstance
                refine wp_region_held_drew (S := fun w' => Ext wr w' ∧ w'.cell? ⟨w.heap.size, 0, none⟩ = some (.slice a1 M.length c1) ∧ w'.cell? ⟨w.heap.size, 1, none⟩ = some (.slice a2 S.length c2) ∧ w'.cell? ⟨B, k, none⟩ = some (.slice (some ⟨gk, 0, none⟩) M.length mk) ∧ w'.cell? ⟨B, k + 1, none⟩ = some (.slice (some ⟨gn, 0, none⟩) M.length mn) ∧ w'.cell? ⟨gn, t, none⟩ = some (.int .i64 op) ∧ w'.cell? ⟨gk, a, none⟩ = some (.int .i64 ov)) (by kernel_rfl) ⟨ed, ed.cell v0, ed.cell v1, ed.cell vk, ed.cell vn, ed.cell vnt, ed.cell vka⟩ (fun hHeld0 => ?_)
                refine wpAnyH_take (i := 0) (v := .agg #[.slice a1 M.length c1, .slice a2 S.length c2]) rfl (by kernel_rfl) (by kernel_rfl) (by kernel_rfl) (fun _ _ _ h => h) (Or.inl ⟨by rfl, by intro wx hx; obtain ⟨_, _, _, _, _, _, _⟩ := hx; go_simp⟩) (by assumption) ?_
                try simp only [List.getElem_toArray, List.getElem_cons_zero, Act.put, List.setIfInBounds_toArray, List.set_cons_zero, List.set_cons_succ]
                refine wpAnyH_take (i := 1) (v := .int .i64 a) rfl (by kernel_rfl) (by kernel_rfl) (by kernel_rfl) (fun _ _ _ h => h) (Or.inl ⟨by rfl, by intro wx hx; go_simp⟩) (by assumption) ?_
                try simp only [List.getElem_toArray, List.getElem_cons_succ, List.getElem_cons_zero, Act.put, List.setIfInBounds_toArray, List.set_cons_zero, List.set_cons_succ]
                refine wpAnyH_take (i := 2) (v := .int .i64 t) rfl (by kernel_rfl) (by kernel_rfl) (by kernel_rfl) (fun _ _ _ h => h) (Or.inl ⟨by rfl, by intro wx hx; go_simp⟩) (by assumption) ?_
                try simp only [List.getElem_toArray, List.getElem_cons_succ, List.getElem_cons_zero, Act.put, List.setIfInBounds_toArray, List.set_cons_zero, List.set_cons_succ]
                refine wpAnyH_take (i := 3) (v := .int .i64 r) rfl (by kernel_rfl) (by kernel_rfl) (by kernel_rfl) (fun _ _ _ h => h) (Or.inl ⟨by rfl, by intro wx hx; go_simp⟩) (by assumption) ?_
                try simp only [List.getElem_toArray, List.getElem_cons_succ, List.getElem_cons_zero, Act.put, List.setIfInBounds_toArray, List.set_cons_zero, List.set_cons_succ]
                refine wpAnyH_take (i := 5) (v := .slice (some ⟨B, 0, none⟩) (X.length + 1) (X.length + 1)) rfl (by kernel_rfl) (by kernel_rfl) (by kernel_rfl) (fun _ _ _ h => h) (Or.inl ⟨by rfl, by intro wx hx; go_simp⟩) (by assumption) ?_
                try simp only [List.getElem_toArray, List.getElem_cons_succ, List.getElem_cons_zero, Act.put, List.setIfInBounds_toArray, List.set_cons_zero, List.set_cons_succ]
                refine wpAnyH_take (i := 6) (v := .int .i64 k) rfl (by kernel_rfl) (by kernel_rfl) (by kernel_rfl) (fun _ _ _ h => h) (Or.inl ⟨by rfl, by intro wx hx; go_simp⟩) (by assumption) ?_
                try simp only [List.getElem_toArray, List.getElem_cons_succ, List.getElem_cons_zero, Act.put, List.setIfInBounds_toArray, List.set_cons_zero, List.set_cons_succ]
                refine wpAnyH_take (i := 7) (v := .int .i64 ((k : Int) + 1)) rfl (by kernel_rfl) (by kernel_rfl) (by kernel_rfl) (fun _ _ _ h => h) (Or.inl ⟨by rfl, by intro wx hx; go_simp; exact IntWalk.i64_in _ (by have := hxl.out; omega)⟩) (by assumption) ?_
                try simp only [List.getElem_toArray, List.getElem_cons_succ, List.getElem_cons_zero, Act.put, List.setIfInBounds_toArray, List.set_cons_zero, List.set_cons_succ]
                refine wpAnyH_take (i := 8) (v := .pointer (some ⟨B, k + 1, none⟩)) rfl (by kernel_rfl) (by kernel_rfl) (by kernel_rfl) (fun _ _ _ h => h) (Or.inl ⟨by rfl, by intro wx hx; go_simp; intro hcc; omega⟩) (by assumption) ?_
                try simp only [List.getElem_toArray, List.getElem_cons_succ, List.getElem_cons_zero, Act.put, List.setIfInBounds_toArray, List.set_cons_zero, List.set_cons_succ]
                refine wpAnyH_take (i := 9) (v := .slice (some ⟨gn, 0, none⟩) M.length mn) rfl (by kernel_rfl) (by kernel_rfl) (by kernel_rfl) (fun _ _ _ h => h) (Or.inl ⟨by rfl, by intro wx hx; obtain ⟨_, _, _, _, _, _, _⟩ := hx; go_simp⟩) (by assumption) ?_
                try simp only [List.getElem_toArray, List.getElem_cons_succ, List.getElem_cons_zero, Act.put, List.setIfInBounds_toArray, List.set_cons_zero, List.set_cons_succ]
                refine wpAnyH_take (i := 10) (v := .int .i64 t) rfl (by kernel_rfl) (by kernel_rfl) (by kernel_rfl) (fun _ _ _ h => h) (Or.inl ⟨by rfl, by intro wx hx; go_simp⟩) (by assumption) ?_
                try simp only [List.getElem_toArray, List.getElem_cons_succ, List.getElem_cons_zero, Act.put, List.setIfInBounds_toArray, List.set_cons_zero, List.set_cons_succ]
                refine wpAnyH_take (i := 11) (v := .pointer (some ⟨gn, t, none⟩)) rfl (by kernel_rfl) (by kernel_rfl) (by kernel_rfl) (fun _ _ _ h => h) (Or.inl ⟨by rfl, by intro wx hx; go_simp⟩) (by assumption) ?_
                try simp only [List.getElem_toArray, List.getElem_cons_succ, List.getElem_cons_zero, Act.put, List.setIfInBounds_toArray, List.set_cons_zero, List.set_cons_succ]
                refine wpAnyH_take (i := 12) (v := .int .i64 op) rfl (by kernel_rfl) (by kernel_rfl) (by kernel_rfl) (fun _ _ _ h => h) (Or.inl ⟨by rfl, by intro wx hx; obtain ⟨_, _, _, _, _, _, _⟩ := hx; go_simp⟩) (by assumption) ?_
                try simp only [List.getElem_toArray, List.getElem_cons_succ, List.getElem_cons_zero, Act.put, List.setIfInBounds_toArray, List.set_cons_zero, List.set_cons_succ]
                refine wpAnyH_take (i := 14) (v := .slice (some ⟨B, 0, none⟩) (X.length + 1) (X.length + 1)) rfl (by kernel_rfl) (by kernel_rfl) (by kernel_rfl) (fun _ _ _ h => h) (Or.inl ⟨by rfl, by intro wx hx; go_simp⟩) (by assumption) ?_
                try simp only [List.getElem_toArray, List.getElem_cons_succ, List.getElem_cons_zero, Act.put, List.setIfInBounds_toArray, List.set_cons_zero, List.set_cons_succ]
                refine wpAnyH_take (i := 15) (v := .int .i64 k) rfl (by kernel_rfl) (by kernel_rfl) (by kernel_rfl) (fun _ _ _ h => h) (Or.inl ⟨by rfl, by intro wx hx; go_simp⟩) (by assumption) ?_
                try simp only [List.getElem_toArray, List.getElem_cons_succ, List.getElem_cons_zero, Act.put, List.setIfInBounds_toArray, List.set_cons_zero, List.set_cons_succ]
                refine wpAnyH_take (i := 16) (v := .pointer (some ⟨B, k, none⟩)) rfl (by kernel_rfl) (by kernel_rfl) (by kernel_rfl) (fun _ _ _ h => h) (Or.inl ⟨by rfl, by intro wx hx; go_simp; intro hcc; omega⟩) (by assumption) ?_
                try simp only [List.getElem_toArray, List.getElem_cons_succ, List.getElem_cons_zero, Act.put, List.setIfInBounds_toArray, List.set_cons_zero, List.set_cons_succ]
                refine wpAnyH_take (i := 17) (v := .slice (some ⟨gk, 0, none⟩) M.length mk) rfl (by kernel_rfl) (by kernel_rfl) (by kernel_rfl) (fun _ _ _ h => h) (Or.inl ⟨by rfl, by intro wx hx; obtain ⟨_, _, _, _, _, _, _⟩ := hx; go_simp⟩) (by assumption) ?_
                try simp only [List.getElem_toArray, List.getElem_cons_succ, List.getElem_cons_zero, Act.put, List.setIfInBounds_toArray, List.set_cons_zero, List.set_cons_succ]
                refine wpAnyH_take (i := 18) (v := .int .i64 a) rfl (by kernel_rfl) (by kernel_rfl) (by kernel_rfl) (fun _ _ _ h => h) (Or.inl ⟨by rfl, by intro wx hx; go_simp⟩) (by assumption) ?_
                try simp only [List.getElem_toArray, List.getElem_cons_succ, List.getElem_cons_zero, Act.put, List.setIfInBounds_toArray, List.set_cons_zero, List.set_cons_succ]
                refine wpAnyH_take (i := 19) (v := .pointer (some ⟨gk, a, none⟩)) rfl (by kernel_rfl) (by kernel_rfl) (by kernel_rfl) (fun _ _ _ h => h) (Or.inl ⟨by rfl, by intro wx hx; go_simp⟩) (by assumption) ?_
                try simp only [List.getElem_toArray, List.getElem_cons_succ, List.getElem_cons_zero, Act.put, List.setIfInBounds_toArray, List.set_cons_zero, List.set_cons_succ]
                refine wpAnyH_take (i := 20) (v := .int .i64 ov) rfl (by kernel_rfl) (by kernel_rfl) (by kernel_rfl) (fun _ _ _ h => h) (Or.inl ⟨by rfl, by intro wx hx; obtain ⟨_, _, _, _, _, _, _⟩ := hx; go_simp⟩) (by assumption) ?_
                try simp only [List.getElem_toArray, List.getElem_cons_succ, List.getElem_cons_zero, Act.put, List.setIfInBounds_toArray, List.set_cons_zero, List.set_cons_succ]
                refine wpAnyH_ready (rs := [4]) (by kernel_rfl) (by simp) ?_
                refine AllReadyH.cons rfl (fun K hK => ?_) AllReadyH.nil
                go_simp
                go_at_call 52
                refine (cost_any (s := t) (w0 := wr) (hM'.ext (w' := wr)) (hS'.ext (w' := wr)) hpr.out hrI.out.1 hrI.out.2 haI.out.1 haI.out.2 htI.out.1 htI.out.2).mono ?_
                rw [hstp.out]
                rintro e w5 ⟨rfl, hb6⟩
                go_wp2_with fail
                have er1 : Ext wr w5 := Ext.trans ed hb6
                refine hK.out _ _ ⟨er1, er1.cell v0, er1.cell v1, er1.cell vk, er1.cell vn, er1.cell vnt, er1.cell vka⟩ (fun hHeld1 => ?_)
                clear hK K hHeld0
                try simp only [List.getElem_toArray, List.getElem_cons_succ, List.getElem_cons_zero, Act.put, List.setIfInBounds_toArray, List.set_cons_zero, List.set_cons_succ]
                refine wpAnyH_take (i := 13) (v := .int .i64 (sp + op)) rfl (by kernel_rfl) (by kernel_rfl) (by kernel_rfl) (fun _ _ _ h => h) (Or.inl ⟨by rfl, by intro wx hx; go_simp; exact IntWalk.i64_in _ (by have := hoq.out; omega)⟩) (by assumption) ?_
                try simp only [List.getElem_toArray, List.getElem_cons_succ, List.getElem_cons_zero, Act.put, List.setIfInBounds_toArray, List.set_cons_zero, List.set_cons_succ]
                refine wpAnyH_take (i := 21) (v := .bool false) rfl (by kernel_rfl) (by kernel_rfl) (by kernel_rfl) (fun _ _ _ h => h) (Or.inl ⟨by rfl, by intro wx hx; go_simp⟩) (by assumption) ?_
                try simp only [List.getElem_toArray, List.getElem_cons_succ, List.getElem_cons_zero, Act.put, List.setIfInBounds_toArray, List.set_cons_zero, List.set_cons_succ]
                refine wpAnyH_done (by kernel_rfl) ?_ _
                go_wp2_with fail
                go_roundw
                case rel => exact ⟨q + 1, by omega, by go_num, rfl, rfl, Ext.trans hd er1⟩
                case measure => simp [intOf]; omega
          · have hkl : k = X.length := by omega
            subst hkl
            go_wp2
            go_ret2
            rw [hv0.out]
            exact ⟨_, _, rfl, hownk.mono eo.size, ewp⟩
      | succ j =>
        rw [show (((j + 1 : Nat) : Int) - 1) = (j : Int) by omega]
        have hlt : j < X.length := by omega
        have eo : Ext w wo := ⟨eW.below.trans (hb0.mono hwB)⟩
        have eo0 : Ext w0 wo := Ext.trans ‹Ext w0 w› eo
        obtain ⟨b3, o3, rfl, hcX⟩ := hX.at (w' := w0) hlt
        have y0 : wo.cell? ⟨w.heap.size, 0, none⟩ = some (.slice a1 M.length c1) := (hb0.cell (p := ⟨w.heap.size, 0, none⟩) hwlt.out).trans k0
        have hr := startB_req hst.out hlt
        have hall := hid (lfRow_all hst.out hlt)
        have hlin := hid (fun (y : Nat) (hy : y < M.length) (t : Nat) => lfAt_in hst.out hlt hy t)
        have hbin := hid (fun (y : Nat) (hy : y < M.length) => fun {t : Int} => bestC_in hst.out hlt hy (t := t))
        have hoin := hid (fun (y : Nat) (hy : y < M.length) => opt_in hst.out hy (j + 1))
        obtain ⟨r, hr'⟩ := Int.eq_ofNat_of_zero_le hr.1
        have hrS : r < S.length := by omega
        have hrI := hid (show (0 : Int) ≤ (r : Int) ∧ (r : Int) < S.length by omega)
        have hrow := hid (probB_row hpr.out hrS).1
        rw [hr'] at hcX hall hlin hbin
        rw [Int.toNat_natCast] at hall hlin hbin
        replace hr' := hid hr'
        clear hr
        have hL4 : (servedL (row S r)).length ≤ 4 := by
          have := servedTo_length (row S r) (row S r).length
          have h1 := hrow.out
          have h2 := hn.out
          unfold servedL
          omega
        have hLi : Hid (∀ x ∈ servedL (row S r), I64 x) := servedTo_i64 (cs := row S r) (k := (row S r).length) (by have := hrow.out; have := hn.out; omega)
        have hLm := hid (fun t (h : t ∈ servedL (row S r)) => servedL_lt h)
        have hTl := hid (lfTab_length M S X (j + 1))
        have hTs := hid (lfTab_set (M := M) (S := S) (X := X) (i := j) (by omega))
        have hTn := hid (row_lfTab (M := M) (S := S) (X := X) (i := j + 1) (j := j + 1) (by omega))
        rw [if_neg (by omega)] at hTn
        generalize hD : X.drop (j + 1) = D at *
        replace hD := hid hD
        generalize hLL : servedL (row S r) = L at *
        replace hLL := hid hLL
        generalize hT : lfTab M S X (j + 1) = T at *
        replace hT := hid hT
        have efar : Ext wo (wo.alloc (.cells #[.int .i64 1073741824] 3)) := inferInstance
        have hfar : IsInts (wo.alloc (.cells #[.int .i64 1073741824] 3)) (.slice (some ⟨wo.heap.size, 0, none⟩) ([1073741824] : List Int).length 1) [1073741824] :=
          (Own.litInts (W := wo) (B := 0) (e := 3) (xs := [1073741824]) (Nat.zero_le _) rfl rfl (by simp) rfl).reads (by unfold Short; simp) (by intro x hx; simp at hx; subst hx; unfold I64; omega)
        have y0' := efar.cell y0
        go_wp2_with fail
        refine (sRepeat_any (w0 := wo.alloc (.cells #[.int .i64 1073741824] 3)) (n := M.length) hfar (by have := hn.out; omega) (by have := hn.out; omega)).mono ?_
        rintro e w2 ⟨od, om, rfl, ownN, hb2⟩
        obtain ⟨gk, rfl⟩ := ownN.at (j := 0) (by rw [List.length_replicate]; exact hn.out.1)
        have hgk : B ≤ gk := by have := ownN.lt.1; have h2 := efar.size; have h3 := hb0.size; have h4 := eWW.size; have h5 := hB.out; omega
        rw [← lfRow_zero M S r D L, lfRow_length] at ownN ⊢
        have hB0 : B ≤ wo.heap.size := by have := hb0.size; have := hwlt.out; have := eWW.size; have := hB.out; omega
        have own2 := Own.add ownN hown hb2 hB0
        have eo2 : Ext wo w2 := Ext.trans efar hb2
        obtain ⟨u, hu⟩ : ∃ u, vs[j]? = some u := ⟨_, List.getElem?_eq_getElem (by omega)⟩
        have hcf := lf_cell (hown.ext (w' := w2)) hvs hu
        have hc2 := hcf.1
        have hf2 := hcf.2
        clear hcf
        go_upto_region 9 with fail
        have own3 := rows_lay (Own.one own2) hvs hTl.out (i := j) (by omega)
        have hb3 : Below B W (w2.setCell ⟨B, j, none⟩ (.slice (some ⟨gk, 0, none⟩) M.length om)) := (hb0.trans (eo2.below.mono hB0)).setCell (Nat.le_refl _) _
        generalize w2.setCell ⟨B, j, none⟩ (.slice (some ⟨gk, 0, none⟩) M.length om) = w3 at *
        obtain ⟨gn, mn, hun, hgn⟩ := lf_blk hown hvs hTl.out (j := j + 1) (by omega) (by rw [hTn.out, lfFull_length]; exact hn.out.1)
        rw [hTn.out, lfFull_length] at hun
        have hvs1 : (vs.set j (.slice (some ⟨gk, 0, none⟩) M.length om)).length = X.length + 1 := by rw [List.length_set, hvs]
        have huj : (vs.set j (.slice (some ⟨gk, 0, none⟩) M.length om))[j]? = some (.slice (some ⟨gk, 0, none⟩) M.length om) := by simp [show j < vs.length by omega]
        have hunn : (vs.set j (.slice (some ⟨gk, 0, none⟩) M.length om))[j + 1]? = some (.slice (some ⟨gn, 0, none⟩) M.length mn) := by rw [List.getElem?_set_ne (by omega)]; exact hun
        generalize vs.set j (.slice (some ⟨gk, 0, none⟩) M.length om) = vs1 at *
        have hTl1 := hid (show ∀ f t, (T.set j (lfRow M S r D L f t)).length = X.length + 1 by intro f t; rw [List.length_set]; exact hTl.out)
        have hTj1 := hid (show ∀ f t, row (T.set j (lfRow M S r D L f t)) j = lfRow M S r D L f t by intro f t; simp [row, show j < T.length by have := hTl.out; omega])
        have hTn1 := hid (show ∀ f t, row (T.set j (lfRow M S r D L f t)) (j + 1) = lfFull M S D by
          intro f t
          rw [← hTn.out]
          simp [row])
        have hcj := (lf_cell own3 hvs1 huj).1
        replace hvs1 := hid hvs1
        replace huj := hid huj
        replace hunn := hid hunn
        clear hc2 hf2 own2 ownN hun hown hu hfar
        go_wp2
        go_loopw [55] (fun i wi => ∃ f : Nat, f ≤ M.length ∧ i = .int .i64 f ∧ Below B W wi ∧ Own wi B (lfRows B (X.length + 1) vs1 (T.set j (lfRow M S r D L f 0)))) (fun i _ => M.length - (intOf i).toNat)
        case atStart => exact ⟨0, by omega, rfl, hb3, own3⟩
        case round =>
          obtain ⟨f, hf, rfl, hbm, hownm⟩ := hrel
          obtain ⟨wm, rfl⟩ : ∃ x : World, x = wr := ⟨_, rfl⟩
          have em : Ext w wm := ⟨eW.below.trans (hbm.mono hwB)⟩
          have em0 : Ext w0 wm := Ext.trans ‹Ext w0 w› em
          have ym0 : wm.cell? ⟨w.heap.size, 0, none⟩ = some (.slice a1 M.length c1) := (hbm.cell (p := ⟨w.heap.size, 0, none⟩) hwlt.out).trans k0
          have ym1 : wm.cell? ⟨w.heap.size, 1, none⟩ = some (.slice a2 S.length c2) := (hbm.cell (p := ⟨w.heap.size, 1, none⟩) hwlt.out).trans k1
          have xm := em0.cell hcX
          by_cases hltf : f < M.length
          · have hfull := hid (lfRow_full M S r D L f)
            have hfI := hid (show (0 : Int) ≤ (f : Int) ∧ (f : Int) < M.length by omega)
            have hBm : B ≤ wm.heap.size := by have := hbm.size; have h3 := hb0.size; have h4 := eWW.size; have h5 := hB.out; omega
            go_upto_region 12 with fail
            have ed : Ext wm (wm).drew := inferInstance
            refine wp_region_held_drew (S := fun w' => Ext wm w' ∧ w'.cell? ⟨w.heap.size, 0, none⟩ = some (.slice a1 M.length c1) ∧ w'.cell? ⟨w.heap.size, 1, none⟩ = some (.slice a2 S.length c2) ∧ w'.cell? ⟨b3, o3 + j, none⟩ = some (.int .i64 r)) (by kernel_rfl) ⟨ed, ed.cell ym0, ed.cell ym1, ed.cell xm⟩ (fun hHeld0 => ?_)
            refine wpAnyH_take (i := 0) (v := .agg #[.slice a1 M.length c1, .slice a2 S.length c2]) rfl (by kernel_rfl) (by kernel_rfl) (by kernel_rfl) (fun _ _ _ h => h) (Or.inl ⟨by rfl, by intro wx hx; obtain ⟨_, _, _, _⟩ := hx; go_simp⟩) (by assumption) ?_
            try simp only [List.getElem_toArray, List.getElem_cons_zero, Act.put, List.setIfInBounds_toArray, List.set_cons_zero, List.set_cons_succ]
            refine wpAnyH_take (i := 1) (v := .slice (some ⟨b3, o3, none⟩) X.length cX) rfl (by kernel_rfl) (by kernel_rfl) (by kernel_rfl) (fun _ _ _ h => h) (Or.inl ⟨by rfl, by intro wx hx; go_simp⟩) (by assumption) ?_
            try simp only [List.getElem_toArray, List.getElem_cons_succ, List.getElem_cons_zero, Act.put, List.setIfInBounds_toArray, List.set_cons_zero, List.set_cons_succ]
            refine wpAnyH_take (i := 2) (v := .int .i64 j) rfl (by kernel_rfl) (by kernel_rfl) (by kernel_rfl) (fun _ _ _ h => h) (Or.inl ⟨by rfl, by intro wx hx; go_simp⟩) (by assumption) ?_
            try simp only [List.getElem_toArray, List.getElem_cons_succ, List.getElem_cons_zero, Act.put, List.setIfInBounds_toArray, List.set_cons_zero, List.set_cons_succ]
            refine wpAnyH_take (i := 3) (v := .pointer (some ⟨b3, o3 + j, none⟩)) rfl (by kernel_rfl) (by kernel_rfl) (by kernel_rfl) (fun _ _ _ h => h) (Or.inl ⟨by rfl, by intro wx hx; go_simp⟩) (by assumption) ?_
            try simp only [List.getElem_toArray, List.getElem_cons_succ, List.getElem_cons_zero, Act.put, List.setIfInBounds_toArray, List.set_cons_zero, List.set_cons_succ]
            refine wpAnyH_take (i := 4) (v := .int .i64 r) rfl (by kernel_rfl) (by kernel_rfl) (by kernel_rfl) (fun _ _ _ h => h) (Or.inl ⟨by rfl, by intro wx hx; obtain ⟨_, _, _, _⟩ := hx; go_simp⟩) (by assumption) ?_
            try simp only [List.getElem_toArray, List.getElem_cons_succ, List.getElem_cons_zero, Act.put, List.setIfInBounds_toArray, List.set_cons_zero, List.set_cons_succ]
            refine wpAnyH_take (i := 7) (v := .int .i64 0) rfl (by kernel_rfl) (by kernel_rfl) (by kernel_rfl) (fun _ _ _ h => h) (Or.inl ⟨by rfl, by intro wx hx; go_simp⟩) (by assumption) ?_
            try simp only [List.getElem_toArray, List.getElem_cons_succ, List.getElem_cons_zero, Act.put, List.setIfInBounds_toArray, List.set_cons_zero, List.set_cons_succ]
            refine wpAnyH_ready (rs := [5]) (by kernel_rfl) (by simp) ?_
            refine AllReadyH.cons rfl (fun K hK => ?_) AllReadyH.nil
            go_simp
            go_at_call 55
            refine (served_any (w0 := wm) (hM'.ext (w' := wm)) (hS'.ext (w' := wm)) hrI.out.1 hrI.out.2).mono ?_
            rw [Int.toNat_natCast, hLL.out]
            rintro e w4 ⟨sd, sm, rfl, ownL, hb4⟩
            go_wp2_with fail
            have er1 : Ext wm w4 := Ext.trans ed hb4
            refine hK.out _ _ ⟨er1, er1.cell ym0, er1.cell ym1, er1.cell xm⟩ (fun hHeld1 => ?_)
            clear hK K hHeld0
            try simp only [List.getElem_toArray, List.getElem_cons_succ, List.getElem_cons_zero, Act.put, List.setIfInBounds_toArray, List.set_cons_zero, List.set_cons_succ]
            refine wpAnyH_take (i := 6) (v := .int .i64 L.length) rfl (by kernel_rfl) (by kernel_rfl) (by kernel_rfl) (fun _ _ _ h => h) (Or.inl ⟨by rfl, by intro wx hx; go_simp⟩) (by assumption) ?_
            try simp only [List.getElem_toArray, List.getElem_cons_succ, List.getElem_cons_zero, Act.put, List.setIfInBounds_toArray, List.set_cons_zero, List.set_cons_succ]
            refine wpAnyH_done (by kernel_rfl) ?_ _
            have own4 := Own.add ownL hownm hb4 hBm
            have hb5 : Below B W w4 := hbm.trans (er1.below.mono hBm)
            clear hownm ownL
            go_wp2
            go_loopw [65] (fun i wi => ∃ t : Nat, t ≤ L.length ∧ i = .int .i64 t ∧ Below B W wi ∧ Own wi B (intRowOf 3 (.slice sd L.length sm) L :: lfRows B (X.length + 1) vs1 (T.set j (lfRow M S r D L f t)))) (fun i _ => L.length - (intOf i).toNat)
            case atStart => exact ⟨0, by omega, rfl, hb5, own4⟩
            case round =>
              obtain ⟨t, ht, rfl, hbi, howni⟩ := hrel
              by_cases htl : t < L.length
              · have hLr := howni.reads (by unfold Short; omega) hLi.out
                obtain ⟨b9, o9, rfl, hc9⟩ := hLr.at (w' := wr) htl
                have hmem := hLm.out _ (nth_mem htl)
                rw [hrow.out] at hmem
                obtain ⟨q, hq⟩ := Int.eq_ofNat_of_zero_le hmem.1
                have hqM : q < M.length := by omega
                have hbq := hbin.out f hltf (nth_mem htl)
                rw [hq] at hc9 hbq
                have hqI := hid (show (0 : Int) ≤ (q : Int) ∧ (q : Int) < M.length by omega)
                have hoq := hid (hoin.out q hqM)
                have hcu := hlin.out f hltf t
                have hsucc := hid (lfAt_succ (M := M) (S := S) (r := r) (rest := D) (L := L) (k := t) (y := f) htl)
                rw [hq] at hsucc
                have hset := hid (lfRow_set (M := M) (S := S) (r := r) (rest := D) (L := L) (f := f) (t := t) hltf)
                replace hq := hid hq
                clear hmem
                have ei : Ext w wr := ⟨eW.below.trans (hbi.mono hwB)⟩
                have ei0 : Ext w0 wr := Ext.trans ‹Ext w0 w› ei
                have v0 : wr.cell? ⟨w.heap.size, 0, none⟩ = some (.slice a1 M.length c1) := (hbi.cell (p := ⟨w.heap.size, 0, none⟩) hwlt.out).trans k0
                have v1 : wr.cell? ⟨w.heap.size, 1, none⟩ = some (.slice a2 S.length c2) := (hbi.cell (p := ⟨w.heap.size, 1, none⟩) hwlt.out).trans k1
                have v3 := ei0.cell hcX
                have hownt : Own wr B (lfRows B (X.length + 1) vs1 (T.set j (lfRow M S r D L f t))) := howni.tail
                have vj := (lf_cell hownt hvs1.out huj.out).1
                have vn := (lf_cell hownt hvs1.out hunn.out).1
                have vf := lf_at hownt (hTl1.out f t) (j := j) (by omega) huj.out (by rw [hTj1.out, lfRow_length]) (q := f) hltf
                have vq := (lf_at hownt (hTl1.out f t) (j := j + 1) (by omega) hunn.out (by rw [hTn1.out, lfFull_length]) (q := q) hqM).1
                rw [hTj1.out, nth_lfRow hltf, if_neg (by omega), if_pos rfl] at vf
                rw [hTn1.out, nth_lfFull hqM] at vq
                obtain ⟨vf1, vf2⟩ := vf
                have hmin := hid (show lfAt M S r D L (t + 1) f = if bestC M S f r D q < lfAt M S r D L t f then bestC M S f r D q else lfAt M S r D L t f from hsucc.out)
                have hbc := hid (show bestC M S f r D q = stepC M S r f q + optL M S (row M q) D by rw [bestC, Int.toNat_natCast])
                rw [hbc.out] at hmin hbq
                have hBi : B ≤ wr.heap.size := by have := hbi.size; have h3 := hb0.size; have h4 := eWW.size; have h5 := hB.out; omega
                clear hsucc hbc
                generalize hcu2 : lfAt M S r D L t f = cu at *
                replace hcu2 := hid hcu2
                generalize hnw : lfAt M S r D L (t + 1) f = nw at *
                replace hnw := hid hnw
                generalize hop : optL M S (row M q) D = op at *
                replace hop := hid hop
                have hsb : -1 ≤ stepC M S r f q ∧ stepC M S r f q ≤ 119 := by
                  have b1 := probB_move hpr.out hltf hqM
                  have b2 := probB_serve hpr.out hrS hqM
                  unfold stepC
                  rw [Int.toNat_natCast, Int.toNat_natCast, Int.toNat_natCast]
                  omega
                generalize hstp : stepC M S r f q = sp at *
                replace hstp := hid hstp
                go_upto_region 15 with fail
                have ed : Ext wr wr.drew := inferInstance
                have vf3 : wr.drew.cell? ⟨gk, f, none⟩ = some (.int .i64 cu) := vf1
                refine wp_region_held_drew (S := fun w' => Below B W w' ∧ w'.cell? ⟨w.heap.size, 0, none⟩ = some (.slice a1 M.length c1) ∧ w'.cell? ⟨w.heap.size, 1, none⟩ = some (.slice a2 S.length c2) ∧ w'.cell? ⟨b3, o3 + j, none⟩ = some (.int .i64 r) ∧ w'.cell? ⟨B, j, none⟩ = some (.slice (some ⟨gk, 0, none⟩) M.length om) ∧ w'.cell? ⟨B, j + 1, none⟩ = some (.slice (some ⟨gn, 0, none⟩) M.length mn) ∧ w'.cell? ⟨gn, q, none⟩ = some (.int .i64 op)) (by kernel_rfl) ⟨hbi.drew, v0, v1, v3, vj, vn, vq⟩ (fun hHeld0 => ?_)
                refine wpAnyH_take (i := 0) (v := .slice (some ⟨B, 0, none⟩) (X.length + 1) (X.length + 1)) rfl (by kernel_rfl) (by kernel_rfl) (by kernel_rfl) (fun _ _ _ h => h) (Or.inl ⟨by rfl, by intro wx hx; go_simp⟩) (by assumption) ?_
                try simp only [List.getElem_toArray, List.getElem_cons_zero, Act.put, List.setIfInBounds_toArray, List.set_cons_zero, List.set_cons_succ]
                refine wpAnyH_take (i := 1) (v := .int .i64 j) rfl (by kernel_rfl) (by kernel_rfl) (by kernel_rfl) (fun _ _ _ h => h) (Or.inl ⟨by rfl, by intro wx hx; go_simp⟩) (by assumption) ?_
                try simp only [List.getElem_toArray, List.getElem_cons_succ, List.getElem_cons_zero, Act.put, List.setIfInBounds_toArray, List.set_cons_zero, List.set_cons_succ]
                refine wpAnyH_take (i := 2) (v := .pointer (some ⟨B, j, none⟩)) rfl (by kernel_rfl) (by kernel_rfl) (by kernel_rfl) (fun _ _ _ h => h) (Or.inl ⟨by rfl, by intro wx hx; go_simp; intro hcc; omega⟩) (by assumption) ?_
                try simp only [List.getElem_toArray, List.getElem_cons_succ, List.getElem_cons_zero, Act.put, List.setIfInBounds_toArray, List.set_cons_zero, List.set_cons_succ]
                refine wpAnyH_take (i := 3) (v := .slice (some ⟨gk, 0, none⟩) M.length om) rfl (by kernel_rfl) (by kernel_rfl) (by kernel_rfl) (fun _ _ _ h => h) (Or.inl ⟨by rfl, by intro wx hx; obtain ⟨_, _, _, _, _, _, _⟩ := hx; go_simp⟩) (by assumption) ?_
                try simp only [List.getElem_toArray, List.getElem_cons_succ, List.getElem_cons_zero, Act.put, List.setIfInBounds_toArray, List.set_cons_zero, List.set_cons_succ]
                refine wpAnyH_take (i := 4) (v := .int .i64 f) rfl (by kernel_rfl) (by kernel_rfl) (by kernel_rfl) (fun _ _ _ h => h) (Or.inl ⟨by rfl, by intro wx hx; go_simp⟩) (by assumption) ?_
                try simp only [List.getElem_toArray, List.getElem_cons_succ, List.getElem_cons_zero, Act.put, List.setIfInBounds_toArray, List.set_cons_zero, List.set_cons_succ]
                refine wpAnyH_take (i := 5) (v := .slice (some ⟨B, 0, none⟩) (X.length + 1) (X.length + 1)) rfl (by kernel_rfl) (by kernel_rfl) (by kernel_rfl) (fun _ _ _ h => h) (Or.inl ⟨by rfl, by intro wx hx; go_simp⟩) (by assumption) ?_
                try simp only [List.getElem_toArray, List.getElem_cons_succ, List.getElem_cons_zero, Act.put, List.setIfInBounds_toArray, List.set_cons_zero, List.set_cons_succ]
                refine wpAnyH_take (i := 6) (v := .int .i64 j) rfl (by kernel_rfl) (by kernel_rfl) (by kernel_rfl) (fun _ _ _ h => h) (Or.inl ⟨by rfl, by intro wx hx; go_simp⟩) (by assumption) ?_
                try simp only [List.getElem_toArray, List.getElem_cons_succ, List.getElem_cons_zero, Act.put, List.setIfInBounds_toArray, List.set_cons_zero, List.set_cons_succ]
                refine wpAnyH_take (i := 7) (v := .pointer (some ⟨B, j, none⟩)) rfl (by kernel_rfl) (by kernel_rfl) (by kernel_rfl) (fun _ _ _ h => h) (Or.inl ⟨by rfl, by intro wx hx; go_simp; intro hcc; omega⟩) (by assumption) ?_
                try simp only [List.getElem_toArray, List.getElem_cons_succ, List.getElem_cons_zero, Act.put, List.setIfInBounds_toArray, List.set_cons_zero, List.set_cons_succ]
                refine wpAnyH_take (i := 8) (v := .slice (some ⟨gk, 0, none⟩) M.length om) rfl (by kernel_rfl) (by kernel_rfl) (by kernel_rfl) (fun _ _ _ h => h) (Or.inl ⟨by rfl, by intro wx hx; obtain ⟨_, _, _, _, _, _, _⟩ := hx; go_simp⟩) (by assumption) ?_
                try simp only [List.getElem_toArray, List.getElem_cons_succ, List.getElem_cons_zero, Act.put, List.setIfInBounds_toArray, List.set_cons_zero, List.set_cons_succ]
                refine wpAnyH_take (i := 9) (v := .int .i64 f) rfl (by kernel_rfl) (by kernel_rfl) (by kernel_rfl) (fun _ _ _ h => h) (Or.inl ⟨by rfl, by intro wx hx; go_simp⟩) (by assumption) ?_
                try simp only [List.getElem_toArray, List.getElem_cons_succ, List.getElem_cons_zero, Act.put, List.setIfInBounds_toArray, List.set_cons_zero, List.set_cons_succ]
                refine wpAnyH_take (i := 10) (v := .pointer (some ⟨gk, f, none⟩)) rfl (by kernel_rfl) (by kernel_rfl) (by kernel_rfl) (fun _ _ _ h => h) (Or.inl ⟨by rfl, by intro wx hx; go_simp⟩) (by assumption) ?_
                try simp only [List.getElem_toArray, List.getElem_cons_succ, List.getElem_cons_zero, Act.put, List.setIfInBounds_toArray, List.set_cons_zero, List.set_cons_succ]
                refine wpAnyH_take (i := 12) (v := .agg #[.slice a1 M.length c1, .slice a2 S.length c2]) rfl (by kernel_rfl) (by kernel_rfl) (by kernel_rfl) (fun _ _ _ h => h) (Or.inl ⟨by rfl, by intro wx hx; obtain ⟨_, _, _, _, _, _, _⟩ := hx; go_simp⟩) (by assumption) ?_
                try simp only [List.getElem_toArray, List.getElem_cons_succ, List.getElem_cons_zero, Act.put, List.setIfInBounds_toArray, List.set_cons_zero, List.set_cons_succ]
                refine wpAnyH_take (i := 13) (v := .int .i64 f) rfl (by kernel_rfl) (by kernel_rfl) (by kernel_rfl) (fun _ _ _ h => h) (Or.inl ⟨by rfl, by intro wx hx; go_simp⟩) (by assumption) ?_
                try simp only [List.getElem_toArray, List.getElem_cons_succ, List.getElem_cons_zero, Act.put, List.setIfInBounds_toArray, List.set_cons_zero, List.set_cons_succ]
                refine wpAnyH_take (i := 14) (v := .int .i64 q) rfl (by kernel_rfl) (by kernel_rfl) (by kernel_rfl) (fun _ _ _ h => h) (Or.inl ⟨by rfl, by intro wx hx; go_simp⟩) (by assumption) ?_
                try simp only [List.getElem_toArray, List.getElem_cons_succ, List.getElem_cons_zero, Act.put, List.setIfInBounds_toArray, List.set_cons_zero, List.set_cons_succ]
                refine wpAnyH_take (i := 15) (v := .slice (some ⟨b3, o3, none⟩) X.length cX) rfl (by kernel_rfl) (by kernel_rfl) (by kernel_rfl) (fun _ _ _ h => h) (Or.inl ⟨by rfl, by intro wx hx; go_simp⟩) (by assumption) ?_
                try simp only [List.getElem_toArray, List.getElem_cons_succ, List.getElem_cons_zero, Act.put, List.setIfInBounds_toArray, List.set_cons_zero, List.set_cons_succ]
                refine wpAnyH_take (i := 16) (v := .int .i64 j) rfl (by kernel_rfl) (by kernel_rfl) (by kernel_rfl) (fun _ _ _ h => h) (Or.inl ⟨by rfl, by intro wx hx; go_simp⟩) (by assumption) ?_
                try simp only [List.getElem_toArray, List.getElem_cons_succ, List.getElem_cons_zero, Act.put, List.setIfInBounds_toArray, List.set_cons_zero, List.set_cons_succ]
                refine wpAnyH_take (i := 17) (v := .pointer (some ⟨b3, o3 + j, none⟩)) rfl (by kernel_rfl) (by kernel_rfl) (by kernel_rfl) (fun _ _ _ h => h) (Or.inl ⟨by rfl, by intro wx hx; go_simp⟩) (by assumption) ?_
                try simp only [List.getElem_toArray, List.getElem_cons_succ, List.getElem_cons_zero, Act.put, List.setIfInBounds_toArray, List.set_cons_zero, List.set_cons_succ]
                refine wpAnyH_take (i := 18) (v := .int .i64 r) rfl (by kernel_rfl) (by kernel_rfl) (by kernel_rfl) (fun _ _ _ h => h) (Or.inl ⟨by rfl, by intro wx hx; obtain ⟨_, _, _, _, _, _, _⟩ := hx; go_simp⟩) (by assumption) ?_
                try simp only [List.getElem_toArray, List.getElem_cons_succ, List.getElem_cons_zero, Act.put, List.setIfInBounds_toArray, List.set_cons_zero, List.set_cons_succ]
                refine wpAnyH_take (i := 20) (v := .slice (some ⟨B, 0, none⟩) (X.length + 1) (X.length + 1)) rfl (by kernel_rfl) (by kernel_rfl) (by kernel_rfl) (fun _ _ _ h => h) (Or.inl ⟨by rfl, by intro wx hx; go_simp⟩) (by assumption) ?_
                try simp only [List.getElem_toArray, List.getElem_cons_succ, List.getElem_cons_zero, Act.put, List.setIfInBounds_toArray, List.set_cons_zero, List.set_cons_succ]
                refine wpAnyH_take (i := 21) (v := .int .i64 j) rfl (by kernel_rfl) (by kernel_rfl) (by kernel_rfl) (fun _ _ _ h => h) (Or.inl ⟨by rfl, by intro wx hx; go_simp⟩) (by assumption) ?_
                try simp only [List.getElem_toArray, List.getElem_cons_succ, List.getElem_cons_zero, Act.put, List.setIfInBounds_toArray, List.set_cons_zero, List.set_cons_succ]
                refine wpAnyH_take (i := 22) (v := .int .i64 ((j : Int) + 1)) rfl (by kernel_rfl) (by kernel_rfl) (by kernel_rfl) (fun _ _ _ h => h) (Or.inl ⟨by rfl, by intro wx hx; go_simp; exact IntWalk.i64_in _ (by have := hxl.out; omega)⟩) (by assumption) ?_
                try simp only [List.getElem_toArray, List.getElem_cons_succ, List.getElem_cons_zero, Act.put, List.setIfInBounds_toArray, List.set_cons_zero, List.set_cons_succ]
                refine wpAnyH_take (i := 23) (v := .pointer (some ⟨B, j + 1, none⟩)) rfl (by kernel_rfl) (by kernel_rfl) (by kernel_rfl) (fun _ _ _ h => h) (Or.inl ⟨by rfl, by intro wx hx; go_simp; intro hcc; omega⟩) (by assumption) ?_
                try simp only [List.getElem_toArray, List.getElem_cons_succ, List.getElem_cons_zero, Act.put, List.setIfInBounds_toArray, List.set_cons_zero, List.set_cons_succ]
                refine wpAnyH_take (i := 24) (v := .slice (some ⟨gn, 0, none⟩) M.length mn) rfl (by kernel_rfl) (by kernel_rfl) (by kernel_rfl) (fun _ _ _ h => h) (Or.inl ⟨by rfl, by intro wx hx; obtain ⟨_, _, _, _, _, _, _⟩ := hx; go_simp⟩) (by assumption) ?_
                try simp only [List.getElem_toArray, List.getElem_cons_succ, List.getElem_cons_zero, Act.put, List.setIfInBounds_toArray, List.set_cons_zero, List.set_cons_succ]
                refine wpAnyH_take (i := 25) (v := .int .i64 q) rfl (by kernel_rfl) (by kernel_rfl) (by kernel_rfl) (fun _ _ _ h => h) (Or.inl ⟨by rfl, by intro wx hx; go_simp⟩) (by assumption) ?_
                try simp only [List.getElem_toArray, List.getElem_cons_succ, List.getElem_cons_zero, Act.put, List.setIfInBounds_toArray, List.set_cons_zero, List.set_cons_succ]
                refine wpAnyH_take (i := 26) (v := .pointer (some ⟨gn, q, none⟩)) rfl (by kernel_rfl) (by kernel_rfl) (by kernel_rfl) (fun _ _ _ h => h) (Or.inl ⟨by rfl, by intro wx hx; go_simp⟩) (by assumption) ?_
                try simp only [List.getElem_toArray, List.getElem_cons_succ, List.getElem_cons_zero, Act.put, List.setIfInBounds_toArray, List.set_cons_zero, List.set_cons_succ]
                refine wpAnyH_take (i := 27) (v := .int .i64 op) rfl (by kernel_rfl) (by kernel_rfl) (by kernel_rfl) (fun _ _ _ h => h) (Or.inl ⟨by rfl, by intro wx hx; obtain ⟨_, _, _, _, _, _, _⟩ := hx; go_simp⟩) (by assumption) ?_
                try simp only [List.getElem_toArray, List.getElem_cons_succ, List.getElem_cons_zero, Act.put, List.setIfInBounds_toArray, List.set_cons_zero, List.set_cons_succ]
                refine wpAnyH_ready (rs := [11, 19]) (by kernel_rfl) (by simp) ?_
                refine AllReadyH.cons rfl (fun K hK => ?_) (AllReadyH.cons rfl (fun K hK => ?_) AllReadyH.nil)
                · go_simp
                  refine hK.out _ _ hHeld0 (fun hHeld1 => ?_)
                  clear hK K hHeld0
                  try simp only [List.getElem_toArray, List.getElem_cons_succ, List.getElem_cons_zero, Act.put, List.setIfInBounds_toArray, List.set_cons_zero, List.set_cons_succ]
                  refine wpAnyH_ready (rs := [19]) (by kernel_rfl) (by simp) ?_
                  refine AllReadyH.cons rfl (fun K hK => ?_) AllReadyH.nil
                  go_simp
                  go_at_call 52
                  refine (cost_any (s := q) (w0 := wr) (hM'.ext (w' := wr)) (hS'.ext (w' := wr)) hpr.out hrI.out.1 hrI.out.2 hfI.out.1 hfI.out.2 hqI.out.1 hqI.out.2).mono ?_
                  rw [hstp.out]
                  rintro e w5 ⟨rfl, hb6⟩
                  go_wp2_with fail
                  have er5 : Ext wr w5 := Ext.trans ed hb6
                  have hb7 : Below B W w5 := hbi.trans (er5.below.mono hBi)
                  refine hK.out _ _ ⟨hb7, er5.cell v0, er5.cell v1, er5.cell v3, er5.cell vj, er5.cell vn, er5.cell vq⟩ (fun hHeld2 => ?_)
                  clear hK K hHeld1
                  try simp only [List.getElem_toArray, List.getElem_cons_succ, List.getElem_cons_zero, Act.put, List.setIfInBounds_toArray, List.set_cons_zero, List.set_cons_succ]
                  refine wpAnyH_take (i := 28) (v := .int .i64 (sp + op)) rfl (by kernel_rfl) (by kernel_rfl) (by kernel_rfl) (fun _ _ _ h => h) (Or.inl ⟨by rfl, by intro wx hx; go_simp; exact IntWalk.i64_in _ (by have := hoq.out; omega)⟩) (by assumption) ?_
                  try simp only [List.getElem_toArray, List.getElem_cons_succ, List.getElem_cons_zero, Act.put, List.setIfInBounds_toArray, List.set_cons_zero, List.set_cons_succ]
                  refine wpAnyH_take (i := 29) (v := .int .i64 nw) rfl (by kernel_rfl) (by kernel_rfl) (by kernel_rfl) (fun _ _ _ h => h) (Or.inl ⟨by rfl, by intro wx hx; go_simp; rw [hmin.out]⟩) (by assumption) ?_
                  try simp only [List.getElem_toArray, List.getElem_cons_succ, List.getElem_cons_zero, Act.put, List.setIfInBounds_toArray, List.set_cons_zero, List.set_cons_succ]
                  refine wpAnyH_take (i := 30) (v := .pointer (some ⟨gk, f, none⟩)) rfl (by kernel_rfl) (by kernel_rfl) (by kernel_rfl) (fun _ _ _ h => h) (Or.inl ⟨by rfl, by intro wx hx; go_simp⟩) (by assumption) ?_
                  try simp only [List.getElem_toArray, List.getElem_cons_succ, List.getElem_cons_zero, Act.put, List.setIfInBounds_toArray, List.set_cons_zero, List.set_cons_succ]
                  have vg5 : w5.cell? ⟨gk, f, none⟩ = some (.int .i64 cu) := er5.cell vf1
                  have own5 := howni.ext (w' := w5)
                  have vg6 := (lf_at own5.tail (hTl1.out f t) (j := j) (by omega) huj.out (by rw [hTj1.out, lfRow_length]) (q := f) hltf).2
                  have own6 := lf_put own5 hvs1.out (hTl1.out f t) (by omega) huj.out (by rw [hTj1.out, lfRow_length]) f (.int .i64 nw) (xs := lfRow M S r D L f (t + 1)) (by rw [hTj1.out, hset.out]) (lfRow_length _ _ _ _ _ _ _)
                  rw [List.set_set] at own6
                  have hb8 : Below B W (w5.setCell ⟨gk, f, none⟩ (.int .i64 nw)) := hb7.setCell hgk _
                  have e8 : Ext w0 (w5.setCell ⟨gk, f, none⟩ (.int .i64 nw)) := Ext.trans ‹Ext w0 w› ⟨eW.below.trans (hb8.mono hwB)⟩
                  have s6 : (w5.setCell ⟨gk, f, none⟩ (.int .i64 nw)).cell? ⟨w.heap.size, 0, none⟩ = some (.slice a1 M.length c1) ∧ (w5.setCell ⟨gk, f, none⟩ (.int .i64 nw)).cell? ⟨w.heap.size, 1, none⟩ = some (.slice a2 S.length c2) ∧ (w5.setCell ⟨gk, f, none⟩ (.int .i64 nw)).cell? ⟨b3, o3 + j, none⟩ = some (.int .i64 r) ∧ (w5.setCell ⟨gk, f, none⟩ (.int .i64 nw)).cell? ⟨B, j, none⟩ = some (.slice (some ⟨gk, 0, none⟩) M.length om) ∧ (w5.setCell ⟨gk, f, none⟩ (.int .i64 nw)).cell? ⟨B, j + 1, none⟩ = some (.slice (some ⟨gn, 0, none⟩) M.length mn) ∧ (w5.setCell ⟨gk, f, none⟩ (.int .i64 nw)).cell? ⟨gn, q, none⟩ = some (.int .i64 op) := by
                    refine ⟨(hb8.cell (p := ⟨w.heap.size, 0, none⟩) hwlt.out).trans k0, (hb8.cell (p := ⟨w.heap.size, 1, none⟩) hwlt.out).trans k1, e8.cell hcX, (lf_cell own6.tail hvs1.out huj.out).1, (lf_cell own6.tail hvs1.out hunn.out).1, ?_⟩
                    have h9 := (lf_at own6.tail (hTl1.out f (t + 1)) (j := j + 1) (by omega) hunn.out (by rw [hTn1.out, lfFull_length]) (q := q) hqM).1
                    rw [hTn1.out, nth_lfFull hqM, hop.out] at h9
                    exact h9
                  replace own6 := hid own6
                  replace s6 := hid s6
                  refine wpAnyH_ready (rs := [31]) (by kernel_rfl) (by simp) ?_
                  refine AllReadyH.cons rfl (fun K hK => ?_) AllReadyH.nil
                  go_simp
                  refine hK.out _ _ ⟨hb8, s6.out⟩ (fun hHeld3 => ?_)
                  clear hK K hHeld2
                  refine wpAnyH_done (by kernel_rfl) ?_ _
                  go_wp2_with fail
                  go_roundw
                  case rel => exact ⟨t + 1, by omega, by go_num, hb8, own6.out⟩
                  case measure => simp [intOf]; omega
                · go_simp
                  go_at_call 52
                  refine (cost_any (s := q) (w0 := wr) (hM'.ext (w' := wr)) (hS'.ext (w' := wr)) hpr.out hrI.out.1 hrI.out.2 hfI.out.1 hfI.out.2 hqI.out.1 hqI.out.2).mono ?_
                  rw [hstp.out]
                  rintro e w5 ⟨rfl, hb6⟩
                  go_wp2_with fail
                  have er5 : Ext wr w5 := Ext.trans ed hb6
                  have hb7 : Below B W w5 := hbi.trans (er5.below.mono hBi)
                  refine hK.out _ _ ⟨hb7, er5.cell v0, er5.cell v1, er5.cell v3, er5.cell vj, er5.cell vn, er5.cell vq⟩ (fun hHeld1 => ?_)
                  clear hK K hHeld0
                  try simp only [List.getElem_toArray, List.getElem_cons_succ, List.getElem_cons_zero, Act.put, List.setIfInBounds_toArray, List.set_cons_zero, List.set_cons_succ]
                  have vf5 : w5.cell? ⟨gk, f, none⟩ = some (.int .i64 cu) := er5.cell vf1
                  refine wpAnyH_take (i := 28) (v := .int .i64 (sp + op)) rfl (by kernel_rfl) (by kernel_rfl) (by kernel_rfl) (fun _ _ _ h => h) (Or.inl ⟨by rfl, by intro wx hx; go_simp; exact IntWalk.i64_in _ (by have := hoq.out; omega)⟩) (by assumption) ?_
                  try simp only [List.getElem_toArray, List.getElem_cons_succ, List.getElem_cons_zero, Act.put, List.setIfInBounds_toArray, List.set_cons_zero, List.set_cons_succ]
                  refine wpAnyH_ready (rs := [11]) (by kernel_rfl) (by simp) ?_
                  refine AllReadyH.cons rfl (fun K hK => ?_) AllReadyH.nil
                  go_simp
                  refine hK.out _ _ hHeld1 (fun hHeld2 => ?_)
                  clear hK K hHeld1
                  try simp only [List.getElem_toArray, List.getElem_cons_succ, List.getElem_cons_zero, Act.put, List.setIfInBounds_toArray, List.set_cons_zero, List.set_cons_succ]
                  refine wpAnyH_take (i := 29) (v := .int .i64 nw) rfl (by kernel_rfl) (by kernel_rfl) (by kernel_rfl) (fun _ _ _ h => h) (Or.inl ⟨by rfl, by intro wx hx; go_simp; rw [hmin.out]⟩) (by assumption) ?_
                  try simp only [List.getElem_toArray, List.getElem_cons_succ, List.getElem_cons_zero, Act.put, List.setIfInBounds_toArray, List.set_cons_zero, List.set_cons_succ]
                  refine wpAnyH_take (i := 30) (v := .pointer (some ⟨gk, f, none⟩)) rfl (by kernel_rfl) (by kernel_rfl) (by kernel_rfl) (fun _ _ _ h => h) (Or.inl ⟨by rfl, by intro wx hx; go_simp⟩) (by assumption) ?_
                  try simp only [List.getElem_toArray, List.getElem_cons_succ, List.getElem_cons_zero, Act.put, List.setIfInBounds_toArray, List.set_cons_zero, List.set_cons_succ]
                  have vg5 : w5.cell? ⟨gk, f, none⟩ = some (.int .i64 cu) := er5.cell vf1
                  have own5 := howni.ext (w' := w5)
                  have vg6 := (lf_at own5.tail (hTl1.out f t) (j := j) (by omega) huj.out (by rw [hTj1.out, lfRow_length]) (q := f) hltf).2
                  have own6 := lf_put own5 hvs1.out (hTl1.out f t) (by omega) huj.out (by rw [hTj1.out, lfRow_length]) f (.int .i64 nw) (xs := lfRow M S r D L f (t + 1)) (by rw [hTj1.out, hset.out]) (lfRow_length _ _ _ _ _ _ _)
                  rw [List.set_set] at own6
                  have hb8 : Below B W (w5.setCell ⟨gk, f, none⟩ (.int .i64 nw)) := hb7.setCell hgk _
                  have e8 : Ext w0 (w5.setCell ⟨gk, f, none⟩ (.int .i64 nw)) := Ext.trans ‹Ext w0 w› ⟨eW.below.trans (hb8.mono hwB)⟩
                  have s6 : (w5.setCell ⟨gk, f, none⟩ (.int .i64 nw)).cell? ⟨w.heap.size, 0, none⟩ = some (.slice a1 M.length c1) ∧ (w5.setCell ⟨gk, f, none⟩ (.int .i64 nw)).cell? ⟨w.heap.size, 1, none⟩ = some (.slice a2 S.length c2) ∧ (w5.setCell ⟨gk, f, none⟩ (.int .i64 nw)).cell? ⟨b3, o3 + j, none⟩ = some (.int .i64 r) ∧ (w5.setCell ⟨gk, f, none⟩ (.int .i64 nw)).cell? ⟨B, j, none⟩ = some (.slice (some ⟨gk, 0, none⟩) M.length om) ∧ (w5.setCell ⟨gk, f, none⟩ (.int .i64 nw)).cell? ⟨B, j + 1, none⟩ = some (.slice (some ⟨gn, 0, none⟩) M.length mn) ∧ (w5.setCell ⟨gk, f, none⟩ (.int .i64 nw)).cell? ⟨gn, q, none⟩ = some (.int .i64 op) := by
                    refine ⟨(hb8.cell (p := ⟨w.heap.size, 0, none⟩) hwlt.out).trans k0, (hb8.cell (p := ⟨w.heap.size, 1, none⟩) hwlt.out).trans k1, e8.cell hcX, (lf_cell own6.tail hvs1.out huj.out).1, (lf_cell own6.tail hvs1.out hunn.out).1, ?_⟩
                    have h9 := (lf_at own6.tail (hTl1.out f (t + 1)) (j := j + 1) (by omega) hunn.out (by rw [hTn1.out, lfFull_length]) (q := q) hqM).1
                    rw [hTn1.out, nth_lfFull hqM, hop.out] at h9
                    exact h9
                  replace own6 := hid own6
                  replace s6 := hid s6
                  refine wpAnyH_ready (rs := [31]) (by kernel_rfl) (by simp) ?_
                  refine AllReadyH.cons rfl (fun K hK => ?_) AllReadyH.nil
                  go_simp
                  refine hK.out _ _ ⟨hb8, s6.out⟩ (fun hHeld3 => ?_)
                  clear hK K hHeld2
                  refine wpAnyH_done (by kernel_rfl) ?_ _
                  go_wp2_with fail
                  go_roundw
                  case rel => exact ⟨t + 1, by omega, by go_num, hb8, own6.out⟩
                  case measure => simp [intOf]; omega
              · have htt : t = L.length := by omega
                subst htt
                rw [hfull.out] at howni
                go_wp2
                go_roundw
                case rel => exact ⟨f + 1, by omega, by go_num, hbi, howni.tail⟩
                case measure => simp [intOf]; omega
          · have hff : f = M.length := by omega
            subst hff
            rw [hall.out, hTs.out] at hownm
            go_wp2
            go_roundw
            case rel => exact ⟨j, by omega, by go_num, hbm, vs1, hvs1.out, hownm⟩
            case measure => simp [intOf]

end Go.Proofs.Ytkniohcmhdgbeaa
