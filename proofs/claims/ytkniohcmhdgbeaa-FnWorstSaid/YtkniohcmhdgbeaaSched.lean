/- The cost of a schedule. -/
import Derived.Test.YtkniohcmhdgbeaaTakes
import Derived.Deep.Cut
namespace Go.Proofs.Ytkniohcmhdgbeaa
open Go.RowKit

/-- what a request r costs in the state s, coming from another one -/
def stepC (M S : List (List Int)) (r at_ s : Int) : Int := cell M at_.toNat s.toNat + cell S r.toNat s.toNat
/-- the state before the k-th request -/
def atOf (start : Int) (states : List Int) : Nat → Int
  | 0 => start
  | k + 1 => nth states k
def sumTo (M S : List (List Int)) (start : Int) (reqs states : List Int) : Nat → Int
  | 0 => 0
  | k + 1 => sumTo M S start reqs states k + stepC M S (nth reqs k) (atOf start states k) (nth states k)
def okTo (M S : List (List Int)) (reqs states : List Int) (k : Nat) : Prop := ∀ i, i < k → stOk M S (nth reqs i).toNat (nth states i) = true
instance (M S : List (List Int)) (reqs states : List Int) (k : Nat) : Decidable (okTo M S reqs states k) := by unfold okTo; infer_instance
def schedB (M S : List (List Int)) (start : Int) (reqs states : List Int) : Bool := startB M S start reqs && decide (states.length = reqs.length) && decide (okTo M S reqs states states.length)
def schedR (M S : List (List Int)) (start : Int) (reqs states : List Int) : Int := if schedB M S start reqs states = true then sumTo M S start reqs states states.length else 0

theorem startB_prob {M S : List (List Int)} {start : Int} {reqs : List Int} (h : startB M S start reqs = true) : probB M S = true := by
  simp only [startB, Bool.and_eq_true] at h; exact h.1.1
theorem startB_state {M S : List (List Int)} {start : Int} {reqs : List Int} (h : startB M S start reqs = true) : 0 ≤ start ∧ start < M.length := by
  simp only [startB, Bool.and_eq_true] at h
  have := inB_true.1 h.1.2
  omega
theorem startB_len {M S : List (List Int)} {start : Int} {reqs : List Int} (h : startB M S start reqs = true) : reqs.length ≤ 60 := by
  simp only [startB, seqB, Bool.and_eq_true, decide_eq_true_eq] at h; exact h.2.1
theorem startB_req {M S : List (List Int)} {start : Int} {reqs : List Int} (h : startB M S start reqs = true) {k : Nat} (hk : k < reqs.length) : 0 ≤ nth reqs k ∧ nth reqs k < S.length := by
  simp only [startB, seqB, Bool.and_eq_true] at h
  exact belowB_at h.2.2 hk
theorem stOk_in {M S : List (List Int)} {r : Nat} {s : Int} (h : stOk M S r s = true) : 0 ≤ s ∧ s < M.length ∧ 0 ≤ cell S r s.toNat := by
  simp only [stOk, Bool.and_eq_true, decide_eq_true_eq] at h
  have := inB_true.1 h.1
  omega
theorem atOf_in {M S : List (List Int)} {start : Int} {reqs states : List Int} (h0 : 0 ≤ start) (h1 : start < M.length) {k : Nat} (hok : okTo M S reqs states k) : 0 ≤ atOf start states k ∧ atOf start states k < M.length := by
  cases k with
  | zero => exact ⟨h0, h1⟩
  | succ k =>
    have := stOk_in (hok k (by omega))
    exact ⟨this.1, this.2.1⟩
theorem stepC_le {M S : List (List Int)} (hp : probB M S = true) {r a s : Int} (hr0 : 0 ≤ r) (hr1 : r < S.length) (_ha0 : 0 ≤ a) (ha1 : a < M.length) (hs0 : 0 ≤ s) (hs1 : s < M.length) :
    -1 ≤ stepC M S r a s ∧ stepC M S r a s ≤ 119 := by
  have h1 := probB_move hp (x := a.toNat) (y := s.toNat) (by omega) (by omega)
  have h2 := probB_serve hp (k := r.toNat) (x := s.toNat) (by omega) (by omega)
  unfold stepC
  omega
theorem sumTo_le {M S : List (List Int)} {start : Int} {reqs states : List Int} (h : startB M S start reqs = true) (hl : states.length = reqs.length) :
    ∀ k, k ≤ states.length → okTo M S reqs states k → -(k : Int) ≤ sumTo M S start reqs states k ∧ sumTo M S start reqs states k ≤ 119 * k
  | 0, _, _ => by simp [sumTo]
  | k + 1, hk, hok => by
    have ih := sumTo_le h hl k (by omega) (fun i hi => hok i (by omega))
    have h1 := startB_req h (k := k) (by omega)
    have h2 := stOk_in (hok k (by omega))
    have h3 := startB_state h
    have h4 := atOf_in h3.1 h3.2 (fun i (hi : i < k) => hok i (by omega))
    have h5 := stepC_le (startB_prob h) h1.1 h1.2 h4.1 h4.2 h2.1 h2.2.1
    simp only [sumTo]
    omega

set_option maxHeartbeats 800000 in
set_option maxRecDepth 100000 in
theorem cost_any {v1 v2 : Value} {M S : List (List Int)} {a s r : Int} {w0 w : World} [Ext w0 w] (hM : IsRows w0 v1 M) (hS : IsRows w0 v2 S) (hp : probB M S = true)
    (hr0 : 0 ≤ r) (hr1 : r < S.length) (ha0 : 0 ≤ a) (ha1 : a < M.length) (hs0 : 0 ≤ s) (hs1 : s < M.length) :
    Calls Try.prog 52 #[.agg #[v1, v2], .int .i64 a, .int .i64 s, .int .i64 r] w fun e w' => e = .returned (.int .i64 (stepC M S r a s)) ∧ Ext w w' := by
  obtain ⟨a1, c1, rfl, l1⟩ := hM.form
  obtain ⟨a2, c2, rfl, l2⟩ := hS.form
  obtain ⟨a, rfl⟩ := Int.eq_ofNat_of_zero_le ha0
  obtain ⟨s, rfl⟩ := Int.eq_ofNat_of_zero_le hs0
  obtain ⟨r, rfl⟩ := Int.eq_ofNat_of_zero_le hr0
  have hrow := hid (probB_row hp (k := r) (by omega)).1
  have hsq := hid (tableB_square (probB_table hp))
  have b1 := probB_move hp (x := a) (y := s) (by omega) (by omega)
  have b2 := probB_serve hp (k := r) (x := s) (by omega) (by omega)
  replace hp := hid hp
  have ht := hid (show stepC M S (r : Int) (a : Int) (s : Int) = cell M a s + cell S r s by simp [stepC])
  have ha2 : a < M.length := by omega
  have hs2 : s < M.length := by omega
  have hr2 : r < S.length := by omega
  go_enter Try.func52, Try.ntmps52
  go_upto_region 1 with fail
  generalize hW : w.alloc (.cells #[.slice a1 M.length c1, .slice a2 S.length c2] 26) = W
  have e1 : Ext w W := hW ▸ inferInstance
  have e0 : Ext w0 W := Ext.trans ‹Ext w0 w› e1
  have x0 : W.cell? ⟨w.heap.size, 0, none⟩ = some (.slice a1 M.length c1) := by subst hW; go_simp
  have x1 : W.cell? ⟨w.heap.size, 1, none⟩ = some (.slice a2 S.length c2) := by subst hW; go_simp
  clear hW
  obtain ⟨b3, o3, d3, m3, rfl, hc3, hr3, _⟩ := hM.at (w' := W) ha2
  have hl3 := square_row hsq.out ha2
  rw [hl3] at hr3 hc3
  replace hl3 := hid hl3
  obtain ⟨b4, o4, rfl, hc4⟩ := hr3.at (w' := W) (k := s) (by rw [hl3.out]; exact hs2)
  obtain ⟨b5, o5, d5, m5, rfl, hc5, hr5, _⟩ := hS.at (w' := W) hr2
  rw [hrow.out] at hr5 hc5
  obtain ⟨b6, o6, rfl, hc6⟩ := hr5.at (w' := W) (k := s) (by rw [hrow.out]; exact hs2)
  have hc4' : W.cell? ⟨b4, o4 + s, none⟩ = some (.int .i64 (cell M a s)) := hc4
  have hc6' : W.cell? ⟨b6, o6 + s, none⟩ = some (.int .i64 (cell S r s)) := hc6
  clear hc4 hc6
  go_wp2_with (go_quiet (fail))
  go_ret
  exact ⟨ret_int ht.out.symm, Ext.trans e1 inferInstance⟩

set_option maxHeartbeats 1600000 in
set_option maxRecDepth 100000 in
theorem l8Sum_any {v1 v2 v3 v4 : Value} {M S : List (List Int)} {start : Int} {reqs states : List Int} {w0 w : World} [Ext w0 w] (hM : IsRows w0 v1 M) (hS : IsRows w0 v2 S) (hx : IsInts w0 v3 reqs) (hy : IsInts w0 v4 states)
    (hst : startB M S start reqs = true) (hl : states.length = reqs.length) (hok : okTo M S reqs states states.length) :
    Calls Try.prog 53 #[.agg #[v1, v2], .int .i64 start, v3, v4] w fun e w' => e = .returned (.int .i64 (sumTo M S start reqs states states.length)) ∧ Ext w w' := by
  obtain ⟨a1, c1, rfl, l1⟩ := hM.form
  obtain ⟨a2, c2, rfl, l2⟩ := hS.form
  obtain ⟨a3, c3, rfl, l3⟩ := hx.form
  obtain ⟨a4, c4, rfl, l4⟩ := hy.form
  replace hst := hid hst
  replace hl := hid hl
  replace hok := hid hok
  have hsq := hid (tableB_square (probB_table (startB_prob hst.out)))
  go_enter Try.func53, Try.ntmps53
  go_wp2
  go_loopw [9, 10, 11] (fun p q i wr => ∃ k : Nat, k ≤ states.length ∧ i = .int .i64 k ∧ p = .int .i64 (sumTo M S start reqs states k) ∧ q = .int .i64 (atOf start states k) ∧ Drew (w.alloc (.cells #[.slice a1 M.length c1, .slice a2 S.length c2] 26)) wr) (fun _ _ i _ => states.length - (intOf i).toNat)
  case atStart => exact ⟨0, by omega, rfl, rfl, rfl, Drew.refl _⟩
  case round =>
    obtain ⟨k, hk, rfl, rfl, rfl, hd⟩ := hrel
    have x0 : wr.cell? ⟨w.heap.size, 0, none⟩ = some (.slice a1 M.length c1) := hd.ext.cell (by go_simp)
    have x1 : wr.cell? ⟨w.heap.size, 1, none⟩ = some (.slice a2 S.length c2) := hd.ext.cell (by go_simp)
    have e1 : Ext w wr := Ext.trans inferInstance hd.ext
    have e0 : Ext w0 wr := Ext.trans ‹Ext w0 w› e1
    by_cases hlt : k < states.length
    · have hltr : k < reqs.length := by have := hl.out; omega
      have hlr : (k : Int) < (reqs.length : Int) := by omega
      obtain ⟨b4, o4, rfl, hc4⟩ := hy.at (w' := wr) hlt
      obtain ⟨b3, o3, rfl, hc3⟩ := hx.at (w' := wr) hltr
      have hb := sumTo_le hst.out hl.out k (by omega) (fun i hi => hok.out i (by omega))
      have hs := stOk_in (hok.out k hlt)
      have hr := startB_req hst.out hltr
      have h3 := startB_state hst.out
      have ha := atOf_in h3.1 h3.2 (fun i (hi : i < k) => hok.out i (by omega))
      have hc := stepC_le (startB_prob hst.out) hr.1 hr.2 ha.1 ha.2 hs.1 hs.2.1
      have hsucc := hid (show sumTo M S start reqs states (k + 1) = sumTo M S start reqs states k + stepC M S (nth reqs k) (atOf start states k) (nth states k) from rfl)
      have hasucc := hid (show atOf start states (k + 1) = nth states k from rfl)
      generalize sumTo M S start reqs states k = sm at *
      obtain ⟨s, hs'⟩ := Int.eq_ofNat_of_zero_le hs.1
      obtain ⟨r, hr'⟩ := Int.eq_ofNat_of_zero_le hr.1
      obtain ⟨t, ht'⟩ := Int.eq_ofNat_of_zero_le ha.1
      have hsn : s < M.length := by have := hs.2.1; omega
      have hrn : r < S.length := by have := hr.2; omega
      have htn : t < M.length := by have := ha.2; omega
      have hcv := hid (show stepC M S (nth reqs k) (atOf start states k) (nth states k) = cell M t s + cell S r s by rw [hs', hr', ht']; simp [stepC])
      have b1 := probB_move (startB_prob hst.out) htn hsn
      have b2 := probB_serve (startB_prob hst.out) hrn hsn
      have hrow := hid (probB_row (startB_prob hst.out) hrn).1
      clear hs hr ha hc
      rw [hs'] at hc4
      rw [hr'] at hc3
      rw [ht']
      replace hs' := hid hs'
      replace hr' := hid hr'
      replace ht' := hid ht'
      obtain ⟨b5, o5, d5, m5, rfl, hc5, hr5, _⟩ := hM.at (w' := wr) htn
      have hl5 := square_row hsq.out htn
      rw [hl5] at hr5 hc5
      replace hl5 := hid hl5
      obtain ⟨b6, o6, rfl, hc6⟩ := hr5.at (w' := wr) (k := s) (by rw [hl5.out]; exact hsn)
      obtain ⟨b7, o7, d7, m7, rfl, hc7, hr7, _⟩ := hS.at (w' := wr) hrn
      rw [hrow.out] at hr7 hc7
      obtain ⟨b8, o8, rfl, hc8⟩ := hr7.at (w' := wr) (k := s) (by rw [hrow.out]; exact hsn)
      have hc6' : wr.cell? ⟨b6, o6 + s, none⟩ = some (.int .i64 (cell M t s)) := hc6
      have hc8' : wr.cell? ⟨b8, o8 + s, none⟩ = some (.int .i64 (cell S r s)) := hc8
      clear hc6 hc8
      go_wp2_with (go_quiet (fail))
      go_roundw
      case rel =>
        refine ⟨k + 1, by omega, by go_num, ?_, ?_, hd.step _⟩
        · rw [hsucc.out, hcv.out]; go_num
        · rw [hasucc.out, hs'.out]
      case measure => simp [intOf]; omega
    · have hltr : ¬ k < reqs.length := by have := hl.out; omega
      go_wp2
      go_ret
      have : k = states.length := by omega
      subst this
      exact ⟨rfl, e1⟩

end Go.Proofs.Ytkniohcmhdgbeaa
