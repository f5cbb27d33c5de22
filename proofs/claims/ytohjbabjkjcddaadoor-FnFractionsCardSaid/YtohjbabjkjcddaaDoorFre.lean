/- Fractions: the simplest one between two others; both sides. -/
import Derived.Test.YtohjbabjkjcddaaDoorFrd
namespace Go.Proofs.YtohjbabjkjcddaaDoor
open Go.RowKit

set_option maxHeartbeats 800000 in
theorem l2Cmp_any {a b c d : Int} (hb : fcB a b c d = true) (w : World) :
    Calls Tryd.prog 36 #[.agg #[.int .i64 a, .int .i64 b], .agg #[.int .i64 c, .int .i64 d]] w fun e w' => e = .returned (.int .i64 (cmp1 (a * d) (c * b))) ∧ Ext w w' := by
  have hf := hb
  unfold fcB at hf
  rw [Bool.and_eq_true] at hf
  have q1 := fracB_in hf.1
  have q2 := fracB_in hf.2
  have m1 := mul_in (a := a) (b := d) (by omega) (by omega)
  have m2 := mul_in (a := c) (b := b) (by omega) (by omega)
  obtain ⟨W, hW⟩ : ∃ W, W = (w.alloc (.cells #[.int .i64 a, .int .i64 b] 25)).alloc (.cells #[.int .i64 c, .int .i64 d] 25) := ⟨_, rfl⟩
  have eW : Ext w W := by rw [hW]; infer_instance
  have x0 : W.cell? ⟨w.heap.size, 0, none⟩ = some (.int .i64 a) := by rw [hW]; go_simp
  have x1 : W.cell? ⟨w.heap.size, 1, none⟩ = some (.int .i64 b) := by rw [hW]; go_simp
  have y0 : W.cell? ⟨w.heap.size + 1, 0, none⟩ = some (.int .i64 c) := by rw [hW]; go_simp
  have y1 : W.cell? ⟨w.heap.size + 1, 1, none⟩ = some (.int .i64 d) := by rw [hW]; go_simp
  by_cases h1 : a * d < c * b
  · have hr := hid (show cmp1 (a * d) (c * b) = -1 by rw [cmp1, if_pos h1])
    go_enter Tryd.func36, Tryd.ntmps36
    go_upto_region 1 with fail
    rw [← hW]
    replace hW := hid hW
    go_wp2_with (go_quiet (fail))
    go_ret
    exact ⟨ret_int hr.out.symm, Ext.trans eW inferInstance⟩
  · by_cases h2 : c * b < a * d
    · have hr := hid (show cmp1 (a * d) (c * b) = 1 by rw [cmp1, if_neg h1, if_pos h2])
      go_enter Tryd.func36, Tryd.ntmps36
      go_upto_region 1 with fail
      rw [← hW]
      replace hW := hid hW
      go_wp2_with (go_quiet (fail))
      go_ret
      exact ⟨ret_int hr.out.symm, Ext.trans eW inferInstance⟩
    · have hr := hid (show cmp1 (a * d) (c * b) = 0 by rw [cmp1, if_neg h1, if_neg h2])
      go_enter Tryd.func36, Tryd.ntmps36
      go_upto_region 1 with fail
      rw [← hW]
      replace hW := hid hW
      go_wp2_with (go_quiet (fail))
      go_ret
      exact ⟨ret_int hr.out.symm, Ext.trans eW inferInstance⟩
def FbPost (a b c d n m : Int) (ok : Bool) : Prop := (fcB a b c d = true ∧ BtPost a b c d n m ok) ∨ (fcB a b c d = false ∧ n = 0 ∧ m = 0 ∧ ok = false)
theorem fb_eq {a b c d n m n' m' : Int} {ok ok' : Bool} (h1 : FbPost a b c d n m ok) (h2 : FbPost a b c d n' m' ok') : n = n' ∧ m = m' ∧ ok = ok' := by
  rcases h1 with ⟨e1, h1⟩ | ⟨e1, rfl, rfl, rfl⟩
  · rcases h2 with ⟨_, h2⟩ | ⟨e2, _⟩
    · exact bt_eq h1 h2
    · rw [e1] at e2; cases e2
  · rcases h2 with ⟨e2, _⟩ | ⟨_, rfl, rfl, rfl⟩
    · rw [e1] at e2; cases e2
    · exact ⟨rfl, rfl, rfl⟩
def FbRes (a b c d : Int) (w w' : World) (e : Ending) : Prop := ∃ n m ok, e = .returned (.tuple #[.agg #[.int .i64 n, .int .i64 m], .bool ok]) ∧ FbPost a b c d n m ok ∧ Ext w w'
theorem quo_den {a b : Int} {e : Nat} (ha : -100000000 ≤ a ∧ a ≤ 100000000) (he : 1 ≤ e) (he2 : e ≤ 100000) : (-10000000000000 ≤ a * (e : Int) ∧ a * (e : Int) ≤ 10000000000000) ∧ -10000000000000 ≤ a * (e : Int) / b ∧ a * (e : Int) / b ≤ 10000000000000 := by
  have h1 := mul_in (a := a) (b := (e : Int)) ha (by omega)
  have h2 := Int.natAbs_ediv_le_natAbs (a * (e : Int)) b
  omega
theorem quo_mul {q d : Int} (h1 : -10000000000000 ≤ q ∧ q ≤ 10000000000000) (hd : 1 ≤ d ∧ d ≤ 100000) : -1000000000000100000 ≤ (q + 1) * d ∧ (q + 1) * d ≤ 1000000000000100000 := by
  have h3 : (q + 1) * d ≤ 10000000000001 * d := Int.mul_le_mul_of_nonneg_right (by omega) (by omega)
  have h4 : (-10000000000000) * d ≤ (q + 1) * d := Int.mul_le_mul_of_nonneg_right (by omega) (by omega)
  omega
set_option maxHeartbeats 1600000 in
theorem implBt_any {a b c d : Int} (w : World) :
    Calls Tryd.prog 19 #[.agg #[.int .i64 a, .int .i64 b], .agg #[.int .i64 c, .int .i64 d]] w fun e w' => FbRes a b c d w w' e := by
  obtain ⟨W, hW⟩ : ∃ W, W = ((w.alloc (.cells #[.int .i64 a, .int .i64 b] 25)).alloc (.cells #[.int .i64 c, .int .i64 d] 25)).alloc (.cells #[.int .i64 0, .int .i64 0] 25) := ⟨_, rfl⟩
  have eW : Ext w W := by rw [hW]; infer_instance
  have x0 : W.cell? ⟨w.heap.size, 0, none⟩ = some (.int .i64 a) := by rw [hW]; go_simp
  have x1 : W.cell? ⟨w.heap.size, 1, none⟩ = some (.int .i64 b) := by rw [hW]; go_simp
  have y0 : W.cell? ⟨w.heap.size + 1, 0, none⟩ = some (.int .i64 c) := by rw [hW]; go_simp
  have y1 : W.cell? ⟨w.heap.size + 1, 1, none⟩ = some (.int .i64 d) := by rw [hW]; go_simp
  have z0 : W.cell? ⟨w.heap.size + 1 + 1, 0, none⟩ = some (.int .i64 0) := by rw [hW]; go_simp
  have z1 : W.cell? ⟨w.heap.size + 1 + 1, 1, none⟩ = some (.int .i64 0) := by rw [hW]; go_simp
  have f0 : W.frozen? ⟨w.heap.size + 1 + 1, 0, none⟩ = false := by rw [hW]; go_simp
  have f1 : W.frozen? ⟨w.heap.size + 1 + 1, 1, none⟩ = false := by rw [hW]; go_simp
  cases hb : fcB a b c d with
  | false =>
    go_enter Tryd.func19, Tryd.ntmps19
    go_upto_region 1 with fail
    rw [← hW]
    replace hW := hid hW
    go_wp2_with fail
    refine (areFracs_any (a := a) (b := b) (c := c) (d := d) W).mono ?_
    rw [show (fracB a b && fracB c d) = false from hb]
    rintro e w2 ⟨rfl, e2⟩
    have r0 := e2.cell z0
    have r1 := e2.cell z1
    have rf0 := e2.frozen z0 f0
    have rf1 := e2.frozen z1 f1
    go_wp2_with fail
    refine bodyPost_ret (v := .tuple #[.agg #[.int .i64 0, .int .i64 0], .bool false]) (by simp [results, Tryd.results19, go_sem, r0, r1]) rfl ?_
    refine ⟨0, 0, false, rfl, Or.inr ⟨hb, rfl, rfl, rfl⟩, ?_⟩
    exact @Ext.set _ _ (@Ext.set _ _ (Ext.trans eW e2) ⟨w.heap.size + 1 + 1, 0, none⟩ (by show _ ≤ w.heap.size + 1 + 1; omega) _) ⟨w.heap.size + 1 + 1, 1, none⟩ (by show _ ≤ w.heap.size + 1 + 1; omega) _
  | true =>
    have hf := hb
    unfold fcB at hf
    rw [Bool.and_eq_true] at hf
    have q1 := fracB_in hf.1
    have q2 := fracB_in hf.2
    replace hb := hid hb
    go_enter Tryd.func19, Tryd.ntmps19
    go_upto_region 1 with fail
    rw [← hW]
    replace hW := hid hW
    go_wp2_with fail
    refine (areFracs_any (a := a) (b := b) (c := c) (d := d) W).mono ?_
    rw [show (fracB a b && fracB c d) = true from hb.out]
    rintro e w2 ⟨rfl, e2⟩
    have x0 := e2.cell x0
    have x1 := e2.cell x1
    have y0 := e2.cell y0
    have y1 := e2.cell y1
    have r0 := e2.cell z0
    have r1 := e2.cell z1
    have rf0 := e2.frozen z0 f0
    have rf1 := e2.frozen z1 f1
    have eW2 : Ext w w2 := Ext.trans eW e2
    go_wp2_with fail
    go_loopw [6, 7, 8] (fun p _ _ wr => ∃ k : Nat, p = .int .i64 k ∧ 1 ≤ k ∧ k ≤ 100001 ∧ Hid (∀ e : Int, 1 ≤ e → e < k → btQ a b c d e) ∧ Ext w2 wr) (fun p _ _ _ => 100001 - (intOf p).toNat)
    case atStart => exact ⟨1, rfl, by omega, by omega, hid fun e h1 h2 => absurd h2 (by omega), Ext.refl _⟩
    case round =>
      obtain ⟨k, rfl, hk1, hk2, hq, he⟩ := hrel
      have x0 := he.cell x0
      have x1 := he.cell x1
      have y0 := he.cell y0
      have y1 := he.cell y1
      by_cases hlt : k ≤ 100000
      · have hle : (k : Int) ≤ 100000 := by omega
        obtain ⟨m1, m2⟩ := quo_den (a := a) (b := b) (e := k) (by omega) hk1 hlt
        have m3 := mul_in (a := c) (b := (k : Int)) (by omega) (by omega)
        have hfl := fun (u : World) => floorDiv_any (n := a * (k : Int)) (d := b) (by omega) (by omega) (by omega) (by omega) u
        obtain ⟨Q, hQ⟩ : ∃ Q, Q = a * (k : Int) / b := ⟨_, rfl⟩
        have hN := hid (show btN a b (k : Int) = Q + 1 by rw [hQ]; rfl)
        rw [← hQ] at hfl m2
        replace hfl := hid hfl
        replace hQ := hid hQ
        have m4 := quo_mul (q := Q) (d := d) m2 (by omega)
        go_upto_region 6 with fail
        go_wp2_with fail
        refine (hfl.out wr).mono ?_
        rintro e w3 ⟨rfl, rfl⟩
        by_cases hok : (Q + 1) * d < c * (k : Int)
        · have hko := hid (show btOk a b c d (k : Int) = true by unfold btOk; rw [hN.out]; simpa using hok)
          go_upto_region 9 with fail
          have o0 : (w3.alloc (.cells #[.int .i64 (Q + 1), .int .i64 (k : Int)] 25)).cell? ⟨w3.heap.size, 0, none⟩ = some (.int .i64 (Q + 1)) := by go_simp
          have o1 : (w3.alloc (.cells #[.int .i64 (Q + 1), .int .i64 (k : Int)] 25)).cell? ⟨w3.heap.size, 1, none⟩ = some (.int .i64 (k : Int)) := by go_simp
          have e4 : Ext w3 (w3.alloc (.cells #[.int .i64 (Q + 1), .int .i64 (k : Int)] 25)) := inferInstance
          generalize w3.alloc (.cells #[.int .i64 (Q + 1), .int .i64 (k : Int)] 25) = w4 at *
          cases hfr : fracB (Q + 1) (k : Int) with
          | false =>
            go_wp2_with fail
            refine (IsFrac_any (n := Q + 1) (d := (k : Int)) w4).mono ?_
            rw [hfr]
            rintro e w5 ⟨rfl, e5⟩
            have hqk : btQ a b c d (k : Int) := bt_fails (by omega) (by omega) (by omega) (by omega) hq.out hko.out (by rw [hN.out]; exact hfr)
            replace hqk := hid hqk
            replace hfr := hid hfr
            go_wp2_with fail
            go_roundw
            case rel =>
              refine ⟨k + 1, by simp, by omega, by omega, hid fun e h1 h2 => ?_, Ext.trans he (Ext.trans e4 e5)⟩
              by_cases hek : e < k
              · exact hq.out e h1 hek
              · rw [show e = (k : Int) by omega]; exact hqk.out
            case measure => simp [intOf]; omega
          | true =>
            go_wp2_with fail
            refine (IsFrac_any (n := Q + 1) (d := (k : Int)) w4).mono ?_
            rw [hfr]
            rintro e w5 ⟨rfl, e5⟩
            have e6 : Ext w2 w5 := Ext.trans he (Ext.trans e4 e5)
            have o0 := e5.cell o0
            have o1 := e5.cell o1
            have s0 := e6.cell r0
            have s1 := e6.cell r1
            have sf0 := e6.frozen r0 rf0
            have sf1 := e6.frozen r1 rf1
            have hfo : BtPost a b c d (Q + 1) (k : Int) true := by
              have h := bt_found (a := a) (b := b) (c := c) (d := d) (e := (k : Int)) (by omega) (by omega) (by omega) hq.out hko.out (by rw [hN.out]; exact hfr)
              rw [hN.out] at h
              exact h
            replace hfo := hid hfo
            replace hfr := hid hfr
            go_wp2_with fail
            refine bodyPost_ret (v := .tuple #[.agg #[.int .i64 (Q + 1), .int .i64 (k : Int)], .bool true]) (by simp [results, Tryd.results19, go_sem, s0, s1]) rfl ?_
            refine ⟨Q + 1, (k : Int), true, rfl, Or.inl ⟨hb.out, hfo.out⟩, ?_⟩
            exact @Ext.set _ _ (@Ext.set _ _ (Ext.trans eW2 e6) ⟨w.heap.size + 1 + 1, 0, none⟩ (by show _ ≤ w.heap.size + 1 + 1; omega) _) ⟨w.heap.size + 1 + 1, 1, none⟩ (by show _ ≤ w.heap.size + 1 + 1; omega) _
        · have hko := hid (show btOk a b c d (k : Int) = false by unfold btOk; rw [hN.out]; simpa using hok)
          go_wp2_with fail
          go_roundw
          case rel =>
            refine ⟨k + 1, by simp, by omega, by omega, hid fun e h1 h2 => ?_, he⟩
            by_cases hek : e < k
            · exact hq.out e h1 hek
            · rw [show e = (k : Int) by omega]; exact Or.inl hko.out
          case measure => simp [intOf]; omega
      · have hgt : ¬ (k : Int) ≤ 100000 := by omega
        have rf0 := he.frozen r0 rf0
        have rf1 := he.frozen r1 rf1
        have r0 := he.cell r0
        have r1 := he.cell r1
        go_wp2_with fail
        refine bodyPost_ret (v := .tuple #[.agg #[.int .i64 0, .int .i64 0], .bool false]) (by simp [results, Tryd.results19, go_sem, r0, r1]) rfl ?_
        refine ⟨0, 0, false, rfl, Or.inl ⟨hb.out, bt_unfound fun e h1 h2 => hq.out e h1 (by omega)⟩, ?_⟩
        exact @Ext.set _ _ (@Ext.set _ _ (Ext.trans eW2 he) ⟨w.heap.size + 1 + 1, 0, none⟩ (by show _ ≤ w.heap.size + 1 + 1; omega) _) ⟨w.heap.size + 1 + 1, 1, none⟩ (by show _ ≤ w.heap.size + 1 + 1; omega) _
set_option maxHeartbeats 1600000 in
theorem specBt_any {a b c d : Int} (w : World) :
    Calls Tryd.prog 20 #[.agg #[.int .i64 a, .int .i64 b], .agg #[.int .i64 c, .int .i64 d]] w fun e w' => FbRes a b c d w w' e := by
  obtain ⟨W, hW⟩ : ∃ W, W = ((w.alloc (.cells #[.int .i64 a, .int .i64 b] 25)).alloc (.cells #[.int .i64 c, .int .i64 d] 25)).alloc (.cells #[.int .i64 0, .int .i64 0] 25) := ⟨_, rfl⟩
  have eW : Ext w W := by rw [hW]; infer_instance
  have x0 : W.cell? ⟨w.heap.size, 0, none⟩ = some (.int .i64 a) := by rw [hW]; go_simp
  have x1 : W.cell? ⟨w.heap.size, 1, none⟩ = some (.int .i64 b) := by rw [hW]; go_simp
  have y0 : W.cell? ⟨w.heap.size + 1, 0, none⟩ = some (.int .i64 c) := by rw [hW]; go_simp
  have y1 : W.cell? ⟨w.heap.size + 1, 1, none⟩ = some (.int .i64 d) := by rw [hW]; go_simp
  have z0 : W.cell? ⟨w.heap.size + 1 + 1, 0, none⟩ = some (.int .i64 0) := by rw [hW]; go_simp
  have z1 : W.cell? ⟨w.heap.size + 1 + 1, 1, none⟩ = some (.int .i64 0) := by rw [hW]; go_simp
  have f0 : W.frozen? ⟨w.heap.size + 1 + 1, 0, none⟩ = false := by rw [hW]; go_simp
  have f1 : W.frozen? ⟨w.heap.size + 1 + 1, 1, none⟩ = false := by rw [hW]; go_simp
  cases hb : fcB a b c d with
  | false =>
    go_enter Tryd.func20, Tryd.ntmps20
    go_upto_region 1 with fail
    rw [← hW]
    replace hW := hid hW
    go_wp2_with fail
    refine (l2Two_any (a := a) (b := b) (c := c) (d := d) W).mono ?_
    rw [show (fracB a b && fracB c d) = false from hb]
    rintro e w2 ⟨rfl, e2⟩
    have s0 := e2.cell z0
    have s1 := e2.cell z1
    have rf0 := e2.frozen z0 f0
    have rf1 := e2.frozen z1 f1
    go_wp2_with fail
    refine bodyPost_ret (v := .tuple #[.agg #[.int .i64 0, .int .i64 0], .bool false]) (by simp [results, Tryd.results20, go_sem, s0, s1]) rfl ?_
    refine ⟨0, 0, false, rfl, Or.inr ⟨hb, rfl, rfl, rfl⟩, ?_⟩
    exact @Ext.set _ _ (@Ext.set _ _ (Ext.trans eW e2) ⟨w.heap.size + 1 + 1, 0, none⟩ (by show _ ≤ w.heap.size + 1 + 1; omega) _) ⟨w.heap.size + 1 + 1, 1, none⟩ (by show _ ≤ w.heap.size + 1 + 1; omega) _
  | true =>
    have hf := hb
    unfold fcB at hf
    rw [Bool.and_eq_true] at hf
    have q1 := fracB_in hf.1
    have q2 := fracB_in hf.2
    replace hb := hid hb
    go_enter Tryd.func20, Tryd.ntmps20
    go_upto_region 1 with fail
    rw [← hW]
    replace hW := hid hW
    go_wp2_with fail
    refine (l2Two_any (a := a) (b := b) (c := c) (d := d) W).mono ?_
    rw [show (fracB a b && fracB c d) = true from hb.out]
    rintro e w1 ⟨rfl, e1⟩
    have x0 := e1.cell x0
    have x1 := e1.cell x1
    have y0 := e1.cell y0
    have y1 := e1.cell y1
    go_wp2_with fail
    refine (l2Cmp_any (a := a) (b := b) (c := c) (d := d) hb.out w1).mono ?_
    rintro e w2 ⟨rfl, e2⟩
    have x0 := e2.cell x0
    have x1 := e2.cell x1
    have y0 := e2.cell y0
    have y1 := e2.cell y1
    have e12 : Ext W w2 := Ext.trans e1 e2
    have s0 := e12.cell z0
    have s1 := e12.cell z1
    have sf0 := e12.frozen z0 f0
    have sf1 := e12.frozen z1 f1
    have eW2 : Ext w w2 := Ext.trans eW e12
    by_cases hlt0 : a * d < c * b
    · have hv : cmp1 (a * d) (c * b) = -1 := by rw [cmp1, if_pos hlt0]
      rw [hv]
      replace hv := hid hv
      go_wp2_with fail
      go_loopw [6, 7] (fun p _ wr => ∃ k : Nat, p = .int .i64 k ∧ 1 ≤ k ∧ k ≤ 100001 ∧ Hid (∀ e : Int, 1 ≤ e → e < k → btOk a b c d e = false) ∧ Ext w2 wr) (fun p _ _ => 100001 - (intOf p).toNat)
      case atStart => exact ⟨1, rfl, by omega, by omega, hid fun e h1 h2 => absurd h2 (by omega), Ext.refl _⟩
      case round =>
        obtain ⟨k, rfl, hk1, hk2, hq, he⟩ := hrel
        have x0 := he.cell x0
        have x1 := he.cell x1
        have y0 := he.cell y0
        have y1 := he.cell y1
        by_cases hlt : k ≤ 100000
        · have hle : (k : Int) ≤ 100000 := by omega
          obtain ⟨m1, m2⟩ := quo_den (a := a) (b := b) (e := k) (by omega) hk1 hlt
          have m3 := mul_in (a := c) (b := (k : Int)) (by omega) (by omega)
          have hfl := fun (u : World) => l2Floor_any (n := a * (k : Int)) (d := b) (by omega) (by omega) (by omega) (by omega) u
          obtain ⟨Q, hQ⟩ : ∃ Q, Q = a * (k : Int) / b := ⟨_, rfl⟩
          have hN := hid (show btN a b (k : Int) = Q + 1 by rw [hQ]; rfl)
          rw [← hQ] at hfl m2
          replace hfl := hid hfl
          replace hQ := hid hQ
          have m4 := quo_mul (q := Q) (d := d) m2 (by omega)
          go_upto_region 6 with fail
          go_wp2_with fail
          refine (hfl.out wr).mono ?_
          rintro e w3 ⟨rfl, rfl⟩
          by_cases hok : (Q + 1) * d < c * (k : Int)
          · have hko := hid (show btOk a b c d (k : Int) = true by unfold btOk; rw [hN.out]; simpa using hok)
            have hM := l2Make_any (n := Q + 1) (d := (k : Int)) (by omega) (by omega) (by omega) (by omega) w3
            have hfo := bt_made (a := a) (b := b) (c := c) (d := d) (e := (k : Int)) (by omega) (by omega) (by omega) (by omega) hq.out hko.out
            rw [hN.out] at hfo
            change BtPost a b c d (mrN (Q + 1) (k : Int)) (mrD (Q + 1) (k : Int)) (mkB (Q + 1) (k : Int)) at hfo
            obtain ⟨rn, hrn⟩ : ∃ q, q = mrN (Q + 1) (k : Int) := ⟨_, rfl⟩
            obtain ⟨rd, hrd⟩ : ∃ q, q = mrD (Q + 1) (k : Int) := ⟨_, rfl⟩
            obtain ⟨rb, hrb⟩ : ∃ q, q = mkB (Q + 1) (k : Int) := ⟨_, rfl⟩
            rw [mkA_eq, ← hrn, ← hrd, ← hrb] at hM
            rw [← hrn, ← hrd, ← hrb] at hfo
            replace hM := hid hM
            replace hrn := hid hrn
            replace hrd := hid hrd
            replace hrb := hid hrb
            replace hfo := hid hfo
            go_wp2_with fail
            refine hM.out.mono ?_
            rintro e w5 ⟨rfl, e5⟩
            have e6 : Ext w2 w5 := Ext.trans he e5
            have sf0 := e6.frozen s0 sf0
            have sf1 := e6.frozen s1 sf1
            have s0 := e6.cell s0
            have s1 := e6.cell s1
            go_wp2_with fail
            refine bodyPost_ret (v := .tuple #[.agg #[.int .i64 rn, .int .i64 rd], .bool rb]) (by simp [results, Tryd.results20, go_sem, s0, s1]) rfl ?_
            refine ⟨rn, rd, rb, rfl, Or.inl ⟨hb.out, hfo.out⟩, ?_⟩
            exact @Ext.set _ _ (@Ext.set _ _ (Ext.trans eW2 e6) ⟨w.heap.size + 1 + 1, 0, none⟩ (by show _ ≤ w.heap.size + 1 + 1; omega) _) ⟨w.heap.size + 1 + 1, 1, none⟩ (by show _ ≤ w.heap.size + 1 + 1; omega) _
          · have hko := hid (show btOk a b c d (k : Int) = false by unfold btOk; rw [hN.out]; simpa using hok)
            go_wp2_with fail
            go_roundw
            case rel =>
              refine ⟨k + 1, by simp, by omega, by omega, hid fun e h1 h2 => ?_, he⟩
              by_cases hek : e < k
              · exact hq.out e h1 hek
              · rw [show e = (k : Int) by omega]; exact hko.out
            case measure => simp [intOf]; omega
        · have hgt : ¬ (k : Int) ≤ 100000 := by omega
          have sf0 := he.frozen s0 sf0
          have sf1 := he.frozen s1 sf1
          have s0 := he.cell s0
          have s1 := he.cell s1
          go_wp2_with fail
          refine bodyPost_ret (v := .tuple #[.agg #[.int .i64 0, .int .i64 0], .bool false]) (by simp [results, Tryd.results20, go_sem, s0, s1]) rfl ?_
          refine ⟨0, 0, false, rfl, Or.inl ⟨hb.out, bt_unfound fun e h1 h2 => Or.inl (hq.out e h1 (by omega))⟩, ?_⟩
          exact @Ext.set _ _ (@Ext.set _ _ (Ext.trans eW2 he) ⟨w.heap.size + 1 + 1, 0, none⟩ (by show _ ≤ w.heap.size + 1 + 1; omega) _) ⟨w.heap.size + 1 + 1, 1, none⟩ (by show _ ≤ w.heap.size + 1 + 1; omega) _
    · have hv : 0 ≤ cmp1 (a * d) (c * b) := by
        rw [cmp1, if_neg hlt0]
        split <;> omega
      have hfo := bt_unfound (a := a) (b := b) (c := c) (d := d) fun e h1 h2 => Or.inl (bt_none (by omega) (by omega) h1 (by omega))
      generalize cmp1 (a * d) (c * b) = vc at *
      replace hfo := hid hfo
      go_wp2_with fail
      refine bodyPost_ret (v := .tuple #[.agg #[.int .i64 0, .int .i64 0], .bool false]) (by simp [results, Tryd.results20, go_sem, s0, s1]) rfl ?_
      refine ⟨0, 0, false, rfl, Or.inl ⟨hb.out, hfo.out⟩, ?_⟩
      exact @Ext.set _ _ (@Ext.set _ _ eW2 ⟨w.heap.size + 1 + 1, 0, none⟩ (by show _ ≤ w.heap.size + 1 + 1; omega) _) ⟨w.heap.size + 1 + 1, 1, none⟩ (by show _ ≤ w.heap.size + 1 + 1; omega) _
end Go.Proofs.YtohjbabjkjcddaaDoor
