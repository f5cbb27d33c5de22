/- Plain laws of problems: a schedule's cost and the least cost, work functions of longer sequences, algorithms. -/
import Derived.Test.YtkniohcmhdgbeaaMadeX
import Derived.Test.YtkniohcmhdgbeaaNear
import Derived.Test.YtkniohcmhdgbeaaSchedB
import Derived.Test.YtkniohcmhdgbeaaWorkX
namespace Go.Proofs.Ytkniohcmhdgbeaa
open Go.RowKit

theorem schedB_parts {M S : List (List Int)} {s : Int} {X Y : List Int} (h : schedB M S s X Y = true) : startB M S s X = true ∧ Y.length = X.length ∧ okTo M S X Y Y.length := by
  simp only [schedB, Bool.and_eq_true, decide_eq_true_eq] at h
  exact ⟨h.1.1, h.1.2, h.2⟩
theorem schedB_intro {M S : List (List Int)} {s : Int} {X Y : List Int} (h1 : startB M S s X = true) (h2 : Y.length = X.length) (h3 : okTo M S X Y Y.length) : schedB M S s X Y = true := by
  simp only [schedB, Bool.and_eq_true, decide_eq_true_eq]
  exact ⟨⟨h1, h2⟩, h3⟩
theorem served_iff {M S : List (List Int)} (hp : probB M S = true) {r : Nat} (hr : r < S.length) {t : Int} : t ∈ servedL (row S r) ↔ stOk M S r t = true := by
  have hrow := (probB_row hp hr).1
  constructor
  · intro h
    have := servedL_lt h
    rw [hrow] at this
    simp only [stOk, Bool.and_eq_true, decide_eq_true_eq]
    exact ⟨inB_true.2 (by omega), this.2.2⟩
  · intro h
    have := stOk_in h
    unfold servedL
    rw [servedTo_mem]
    exact ⟨t.toNat, by rw [hrow]; omega, this.2.2, by omega⟩
/-- what is left to pay behind k places of a schedule is no less than the least cost -/
theorem sched_low {M S : List (List Int)} {s : Int} {X Y : List Int} (h : schedB M S s X Y = true) : ∀ {k : Nat}, k ≤ X.length → optL M S (row M s.toNat) X ≤ sumTo M S s X Y k + optL M S (row M (atOf s Y k).toNat) (X.drop k)
  | 0, _ => by simp [sumTo, atOf]
  | k + 1, hk => by
    have ih := sched_low h (k := k) (by omega)
    obtain ⟨h1, h2, h3⟩ := schedB_parts h
    have hp := startB_prob h1
    have hst := startB_state h1
    have hr := startB_req h1 (k := k) (by omega)
    have hl := startB_len h1
    have ha := atOf_in hst.1 hst.2 (k := k) (fun i hi => h3 i (by omega))
    have hdrop := drop_cons_nth (X := X) (k := k) (by omega)
    rw [hdrop] at ih
    have hmem := mem_drop_in h1 (k + 1)
    have hs := (opt_step hp (s := (atOf s Y k).toNat) (r := nth X k) (X := X.drop (k + 1)) (by omega) hr hmem (by rw [List.length_drop]; omega)).2 (nth Y k) ((served_iff hp (by omega)).2 (h3 k (by omega)))
    have e1 : ((atOf s Y k).toNat : Int) = atOf s Y k := by omega
    rw [e1] at hs
    dsimp only at hs
    show _ ≤ sumTo M S s X Y k + stepC M S (nth X k) (atOf s Y k) (nth Y k) + optL M S (row M (nth Y k).toNat) (X.drop (k + 1))
    omega
theorem opt_end {M S : List (List Int)} (hp : probB M S = true) {s : Int} (h0 : 0 ≤ s) (h1 : s < M.length) {X : List Int} {k : Nat} (hk : X.length ≤ k) : optL M S (row M s.toNat) (X.drop k) = 0 := by
  rw [List.drop_eq_nil_of_le hk]
  exact optL_nil hp (by omega)
/-- no schedule costs less than the least cost -/
theorem sched_least {M S : List (List Int)} {s : Int} {X Y : List Int} (h : schedB M S s X Y = true) : lcR M S s X ≤ schedR M S s X Y := by
  obtain ⟨h1, h2, h3⟩ := schedB_parts h
  have hp := startB_prob h1
  have hst := startB_state h1
  have ha := atOf_in hst.1 hst.2 (k := X.length) (fun i hi => h3 i (by omega))
  have := sched_low h (k := X.length) (Nat.le_refl _)
  rw [opt_end hp ha.1 ha.2 (Nat.le_refl _)] at this
  rw [lcR_true h1, schedR, if_pos h, h2]
  omega
theorem nth_bsTo {M S : List (List Int)} {s : Int} {X : List Int} {k j : Nat} (h : j < k) : nth (bsTo M S s X k) j = bsAt M S s X (j + 1) := by simp [bsTo, nth, h]
theorem atOf_bsTo {M S : List (List Int)} {s : Int} {X : List Int} {k : Nat} : ∀ {j : Nat}, j ≤ k → atOf s (bsTo M S s X k) j = bsAt M S s X j
  | 0, _ => rfl
  | j + 1, h => nth_bsTo (by omega)
theorem bs_step {M S : List (List Int)} {s : Int} {X : List Int} (h : startB M S s X = true) {k : Nat} (hk : k < X.length) :
    bsAt M S s X (k + 1) ∈ servedL (row S (nth X k).toNat) ∧ optL M S (row M (bsAt M S s X k).toNat) (X.drop k) = stepC M S (nth X k) (bsAt M S s X k) (bsAt M S s X (k + 1)) + optL M S (row M (bsAt M S s X (k + 1)).toNat) (X.drop (k + 1)) := by
  have hp := startB_prob h
  have hr := startB_req h hk
  have hl := startB_len h
  have ha := bsAt_in h (k := k) (by omega)
  have e1 : ((bsAt M S s X k).toNat : Int) = bsAt M S s X k := by omega
  rw [drop_cons_nth hk]
  have hs := opt_step hp (s := (bsAt M S s X k).toNat) (r := nth X k) (X := X.drop (k + 1)) (by omega) hr (mem_drop_in h (k + 1)) (by rw [List.length_drop]; omega)
  rw [e1] at hs
  obtain ⟨i, hi, e2, _, hmin⟩ := arg_all (c := bestC M S (bsAt M S s X k) (nth X k) (X.drop (k + 1))) (l := servedL (row S (nth X k).toNat)) (fun t ht => (servedL_lt ht).1) (servedL_ne (probB_row hp (k := (nth X k).toNat) (by omega)).2.2)
  have e3 : bsAt M S s X (k + 1) = nth (servedL (row S (nth X k).toNat)) i := e2
  rw [e3]
  refine ⟨nth_mem hi, ?_⟩
  obtain ⟨⟨t, ht, e4⟩, hle⟩ := hs
  have h5 := hle _ (nth_mem hi)
  obtain ⟨q, hq, rfl⟩ := mem_iff_nth.1 ht
  have h6 := hmin q hq
  unfold bestC at h6
  dsimp only at h5 e4
  omega
theorem best_sum {M S : List (List Int)} {s : Int} {X : List Int} (h : startB M S s X = true) : ∀ {k : Nat}, k ≤ X.length →
    sumTo M S s X (bsTo M S s X X.length) k + optL M S (row M (bsAt M S s X k).toNat) (X.drop k) = optL M S (row M s.toNat) X
  | 0, _ => by simp [sumTo, bsAt]
  | k + 1, hk => by
    have ih := best_sum h (k := k) (by omega)
    rw [(bs_step h (k := k) (by omega)).2] at ih
    rw [sumTo, atOf_bsTo (by omega), nth_bsTo (by omega)]
    omega
/-- the best schedule is one, of the least cost -/
theorem best_sched {M S : List (List Int)} {s : Int} {X : List Int} (h : startB M S s X = true) : schedB M S s X (bestS M S s X) = true ∧ schedR M S s X (bestS M S s X) = lcR M S s X := by
  have e : bestS M S s X = bsTo M S s X X.length := by rw [bestS, if_pos h]
  have hp := startB_prob h
  have hB : schedB M S s X (bestS M S s X) = true := by
    rw [e]
    refine schedB_intro h (bsTo_length _ _ _ _ _) fun i hi => ?_
    rw [bsTo_length] at hi
    have hr := startB_req h hi
    rw [nth_bsTo hi]
    exact (served_iff hp (by omega)).1 (bs_step h hi).1
  refine ⟨hB, ?_⟩
  have ha := bsAt_in h (k := X.length) (Nat.le_refl _)
  have := best_sum h (k := X.length) (Nat.le_refl _)
  rw [opt_end hp ha.1 ha.2 (Nat.le_refl _)] at this
  rw [schedR, if_pos hB, lcR_true h, e, bsTo_length]
  omega
theorem workL_nil (M S : List (List Int)) (w : List Int) : workL M S w [] = w := rfl
theorem workTo_left {M S : List (List Int)} {w X Y : List Int} : ∀ {k : Nat}, k ≤ X.length → workTo M S w (X ++ Y) k = workTo M S w X k
  | 0, _ => rfl
  | k + 1, h => by
    have e : nth (X ++ Y) k = nth X k := by simp [nth, List.getElem?_append_left (show k < X.length by omega)]
    rw [workTo, workTo, workTo_left (k := k) (by omega), e]
theorem workL_snoc (M S : List (List Int)) (w X : List Int) (r : Int) : workL M S w (X ++ [r]) = nextL M S (workL M S w X) r.toNat := by
  have e : nth (X ++ [r]) X.length = r := by simp [nth]
  unfold workL
  rw [List.length_append, List.length_singleton, workTo, workTo_left (Nat.le_refl _), e]
theorem work_ok {M S : List (List Int)} {s : Int} {X : List Int} (h : startB M S s X = true) {k : Nat} (hk : k ≤ X.length) : wOk M (workTo M S (row M s.toNat) X k) (99 + 119 * k) := by
  have hst := startB_state h
  have hl := startB_len h
  exact workTo_ok (startB_prob h) (row_ok (startB_prob h) (by omega)) (fun j hj => by have := startB_req h hj; omega) hk (by omega)
/-- the values of a work function are no further from each other than a move -/
theorem work_near {M S : List (List Int)} {s : Int} {X : List Int} (h : startB M S s X = true) : ∀ {k : Nat}, k ≤ X.length → ∀ {t u : Nat}, t < M.length → u < M.length →
    nth (workTo M S (row M s.toNat) X k) t ≤ nth (workTo M S (row M s.toNat) X k) u + cell M u t
  | 0, _, t, u, ht, hu => by
    have hst := startB_state h
    have := probB_nodet (startB_prob h) s.toNat (by omega) u hu t ht
    have h2 := of_decide_eq_false this
    show cell M s.toNat t ≤ cell M s.toNat u + cell M u t
    omega
  | k + 1, hk, t, u, ht, hu => by
    have hp := startB_prob h
    have hl := startB_len h
    have hr := startB_req h (k := k) (by omega)
    have hok := work_ok h (k := k) (by omega)
    rw [workTo, nth_nextL (by rw [hok.1]; exact ht), nth_nextL (by rw [hok.1]; exact hu)]
    obtain ⟨⟨q, hq, e⟩, _⟩ := nextAt_min hp hok (by omega) (r := (nth X k).toNat) (by omega) hu
    have h2 := (nextAt_min hp hok (by omega) (r := (nth X k).toNat) (by omega) ht).2 q hq
    have hq' := servedL_lt hq
    rw [(probB_row hp (by omega)).1] at hq'
    have := probB_nodet hp q.toNat hq'.2.1 u hu t ht
    have h3 := of_decide_eq_false this
    rw [e]
    unfold wsum at h2 ⊢
    omega
/-- a work function is a list that NextWork takes -/
theorem work_takes {M S : List (List Int)} {s : Int} {X : List Int} (h : startB M S s X = true) {q : Int} (hq : 0 ≤ q ∧ q < S.length) : nwB M S (wfR M S s X) q = true ∧ nwR M S (wfR M S s X) q = workL M S (row M s.toNat) (X ++ [q]) := by
  have hl := startB_len h
  have hok := work_ok h (k := X.length) (Nat.le_refl _)
  have e := wfR_true h
  have hB : nwB M S (wfR M S s X) q = true := by
    refine nwB_true (startB_prob h) (inB_true.2 (by omega)) ?_
    rw [e]
    refine nearB_true hok.1 (belowB_of fun k hk => ?_) fun a ha b hb => decide_eq_true ?_
    · have hk' : k < M.length := by rw [← hok.1]; exact hk
      have := hok.2 k hk'
      exact inB_true.2 ⟨this.1, by have := this.2; show nth (workTo M S (row M s.toNat) X X.length) k ≤ _; omega⟩
    · exact work_near h (Nat.le_refl _) (by rw [← hok.1]; exact ha) (by rw [← hok.1]; exact hb)
  refine ⟨hB, ?_⟩
  rw [nwR_true hB, e, workL_snoc]
theorem startB_snoc {M S : List (List Int)} {s : Int} {X : List Int} (h : startB M S s X = true) {q : Int} (hq : 0 ≤ q ∧ q < S.length) (hl : X.length < 60) : startB M S s (X ++ [q]) = true := by
  simp only [startB, seqB, Bool.and_eq_true, decide_eq_true_eq] at h ⊢
  refine ⟨h.1, by simp; omega, belowB_of fun k hk => ?_⟩
  rw [List.length_append, List.length_singleton] at hk
  by_cases hk' : k < X.length
  · have e : nth (X ++ [q]) k = nth X k := by simp [nth, List.getElem?_append_left hk']
    rw [e]
    have := belowB_at h.2.2 hk'
    exact inB_true.2 (by omega)
  · have e : nth (X ++ [q]) k = q := by
      have : k = X.length := by omega
      subst this
      simp [nth]
    rw [e]
    exact inB_true.2 (by omega)
/-- an algorithm's states are a schedule of its cost -/
theorem alg_sched {M S N : List (List Int)} {s : Int} {X : List Int} (h : algOk M S N s X = true) : schedB M S s X (statesA M S N s X) = true ∧ schedR M S s X (statesA M S N s X) = costA M S N s X := by
  have h' := h
  simp only [algOk, Bool.and_eq_true] at h'
  have hB : schedB M S s X (statesA M S N s X) = true := by
    rw [statesA_true h]
    refine schedB_intro h'.1 (statesTo_length _ _ _ _) ?_
    rw [statesTo_length]
    exact okTo_statesTo h'.1 h'.2 (Nat.le_refl _)
  refine ⟨hB, ?_⟩
  rw [schedR, if_pos hB, costA_true h, statesA_true h, statesTo_length, sumTo_statesTo (Nat.le_refl _)]
theorem alg_least {M S N : List (List Int)} {s : Int} {X : List Int} (h : algOk M S N s X = true) : lcR M S s X ≤ costA M S N s X := by
  have := alg_sched h
  rw [← this.2]
  exact sched_least this.1
/-- the greedy and the lazy algorithm are algorithms -/
theorem made_alg {M S : List (List Int)} (hp : probB M S = true) (lz : Bool) : algR M S (gaR M S lz) = true := by
  rw [algR, hp, gaR_true hp]
  simp only [Bool.true_and, algB, Bool.and_eq_true, decide_eq_true_eq]
  refine ⟨madeL_length _ _ _, fun x hx => ?_⟩
  obtain ⟨s, hs, rfl⟩ := madeL_row hx
  simp only [rowOk, Bool.and_eq_true, decide_eq_true_eq]
  refine ⟨by simp [byRow], fun r hr => ?_⟩
  have hr' : r < S.length := by simpa [byRow] using hr
  have e : nth (byRow (madeAt M S lz) s S.length) r = madeAt M S lz s r := by simp [byRow, nth, hr']
  rw [e]
  unfold madeAt
  split
  · next hc =>
    simp only [stOk, Bool.and_eq_true, decide_eq_true_eq]
    exact ⟨inB_true.2 (by omega), by simpa using hc.2⟩
  · have := arg_in hp (c := stepC M S (r : Int) (s : Int)) hr'
    have e2 : greedyAt M S s r = (servedL (row S r)).foldl (argStep (stepC M S (r : Int) (s : Int))) (-1) := by unfold greedyAt; rw [Int.toNat_natCast]
    rw [e2]
    simp only [stOk, Bool.and_eq_true, decide_eq_true_eq]
    exact ⟨inB_true.2 (by omega), this.2.2⟩
theorem prodTo_pos {M S : List (List Int)} (hp : probB M S = true) : ∀ {k : Nat}, k ≤ S.length → 0 < prodTo S k
  | 0, _ => by simp [prodTo]
  | k + 1, hk => by
    rw [prodTo]
    refine Nat.mul_pos (prodTo_pos hp (by omega)) ?_
    have := servedL_ne (probB_row hp (k := k) (by omega)).2.2
    unfold canN
    exact Nat.pos_of_ne_zero fun h => this (List.eq_nil_of_length_eq_zero h)
theorem count_pos {M S : List (List Int)} (hp : probB M S = true) : 1 ≤ countR M S := by
  rw [countR, if_pos hp]
  have : 0 < countA M S := Nat.pow_pos (prodTo_pos hp (Nat.le_refl _))
  omega
/-- for one request the greedy algorithm costs the least -/
theorem greedy_one {M S : List (List Int)} {s q : Int} (h : startB M S s [q] = true) : algOk M S (gaR M S false) s [q] = true ∧ costA M S (gaR M S false) s [q] = lcR M S s [q] := by
  have hp := startB_prob h
  have hst := startB_state h
  have hq := startB_req h (k := 0) (by simp)
  have hq' : nth [q] 0 = q := rfl
  rw [hq'] at hq
  have hal := made_alg hp false
  rw [algR, hp, Bool.true_and] at hal
  have hok := algOk_true h hal
  refine ⟨hok, ?_⟩
  rw [costA_true hok, lcR_true h]
  have e0 : sumA M S (gaR M S false) s [q] [q].length = stepC M S q s (cell (gaR M S false) s.toNat q.toNat) := by
    show 0 + stepC M S (nth [q] 0) s (cell (gaR M S false) s.toNat (nth [q] 0).toNat) = _
    rw [hq', Int.zero_add]
  rw [e0]
  have e1 : cell (gaR M S false) s.toNat q.toNat = greedyAt M S s q := by
    rw [gaR_true hp]
    unfold cell madeL byTo
    have a : s.toNat < M.length := by omega
    have b : q.toNat < S.length := by omega
    have c : ((s.toNat : Nat) : Int) = s := by omega
    have d : ((q.toNat : Nat) : Int) = q := by omega
    simp [row, a, byRow, nth, b, madeAt, c, d]
  rw [e1]
  obtain ⟨i, hi, e2, _, hmin⟩ := arg_all (c := stepC M S q s) (l := servedL (row S q.toNat)) (fun t ht => (servedL_lt ht).1) (servedL_ne (probB_row hp (k := q.toNat) (by omega)).2.2)
  have e3 : greedyAt M S s q = nth (servedL (row S q.toNat)) i := e2
  rw [e3]
  have hs := opt_step hp (s := s.toNat) (r := q) (X := []) (by omega) hq (by simp) (by simp)
  have c : ((s.toNat : Nat) : Int) = s := by omega
  rw [c] at hs
  obtain ⟨⟨t, ht, e4⟩, hle⟩ := hs
  have h0 : ∀ u ∈ servedL (row S q.toNat), optL M S (row M u.toNat) [] = 0 := by
    intro u hu
    have := servedL_lt hu
    rw [(probB_row hp (by omega)).1] at this
    exact optL_nil hp this.2.1
  have h5 := hle _ (nth_mem hi)
  dsimp only at h5 e4
  rw [h0 _ (nth_mem hi)] at h5
  rw [h0 _ ht] at e4
  obtain ⟨j, hj, rfl⟩ := mem_iff_nth.1 ht
  have h6 := hmin j hj
  omega
theorem startB_one {M S : List (List Int)} {s : Int} {X : List Int} (h : startB M S s X = true) {q : Int} (hq : 0 ≤ q ∧ q < S.length) : startB M S s [q] = true := by
  simp only [startB, seqB, Bool.and_eq_true, decide_eq_true_eq] at h ⊢
  refine ⟨h.1, by simp, belowB_of fun k hk => ?_⟩
  have : k = 0 := by simpa using hk
  subst this
  show inB q 0 _ = true
  exact inB_true.2 (by omega)
end Go.Proofs.Ytkniohcmhdgbeaa
