/- The support of a work list: plain laws. -/
import Derived.Test.YtkibmjenjgijmaaFsQ
import Derived.Test.YtkibmjenjgijmaaWlP
namespace Go.Proofs.Ytkibmjenjgijmaa
open Go.RowKit

--PURE
/-- whether the value at i is not reached from another configuration -/
def supOk (M P : List (List Int)) (ws : List Int) (i : Nat) : Bool := decide (∀ j, j < P.length → i = j ∨ nth ws i < nth ws j + mvC M (row P j) (row P i))
/-- the support among the first configurations -/
def supTo (M P : List (List Int)) (ws : List Int) : Nat → List Nat
  | 0 => []
  | i + 1 => if supOk M P ws i then supTo M P ws i ++ [i] else supTo M P ws i
theorem sup_mem {M P : List (List Int)} {ws : List Int} {i : Nat} : ∀ {m : Nat}, i ∈ supTo M P ws m ↔ i < m ∧ supOk M P ws i = true
  | 0 => by simp [supTo]
  | m + 1 => by
    rw [supTo]
    split
    · rename_i h
      rw [List.mem_append, sup_mem (m := m), List.mem_singleton]
      constructor
      · rintro (⟨h1, h2⟩ | rfl)
        · exact ⟨by omega, h2⟩
        · exact ⟨by omega, h⟩
      · rintro ⟨h1, h2⟩
        by_cases e : i = m
        · exact .inr e
        · exact .inl ⟨by omega, h2⟩
    · rename_i h
      rw [sup_mem (m := m)]
      constructor
      · rintro ⟨h1, h2⟩
        exact ⟨by omega, h2⟩
      · rintro ⟨h1, h2⟩
        refine ⟨?_, h2⟩
        by_cases e : i = m
        · rw [e] at h2
          exact absurd h2 h
        · omega
theorem sup_len {M P : List (List Int)} {ws : List Int} : ∀ m, (supTo M P ws m).length ≤ m
  | 0 => Nat.le_refl _
  | m + 1 => by
    have := sup_len (M := M) (P := P) (ws := ws) m
    rw [supTo]
    split
    · rw [List.length_append]; simp; omega
    · omega
theorem nth_mapN {f : Nat → Int} {T : List Nat} {i : Nat} (h : i < T.length) : nth (T.map f) i = f T[i] := by simp [nth, h]
/-- the least of the sums -/
theorem fs_least {M C : List (List Int)} {V x : List Int} : ∀ j, 1 ≤ j → (∀ t, t < j → 0 ≤ nth V t + mvC M (row C t) x) → (∀ t, t < j → fsAt M C V x j ≤ nth V t + mvC M (row C t) x) ∧ ∃ t, t < j ∧ fsAt M C V x j = nth V t + mvC M (row C t) x
  | 0, h, _ => by omega
  | j + 1, _, hp => by
    rw [fsAt]
    by_cases h0 : j = 0
    · subst h0
      rw [if_pos (.inl (by simp [fsAt]))]
      exact ⟨fun t ht => by rw [show t = 0 by omega]; exact Int.le_refl _, 0, by omega, rfl⟩
    · obtain ⟨h1, t, ht, h2⟩ := fs_least (M := M) (C := C) (V := V) (x := x) j (by omega) fun t ht => hp t (by omega)
      have h3 := hp t (by omega)
      split
      · rename_i hc
        refine ⟨fun q hq => ?_, j, by omega, rfl⟩
        by_cases e : q = j
        · rw [e]; exact Int.le_refl _
        · have := h1 q (by omega)
          omega
      · rename_i hc
        refine ⟨fun q hq => ?_, t, by omega, h2⟩
        by_cases e : q = j
        · rw [e]; omega
        · exact h1 q (by omega)
/-- each value is reached from the support -/
theorem sup_from {M : List (List Int)} {n k : Nat} {L : Int} {ws : List Int} (hd : Dst M n) (hk : k ≤ 3) (hg : GoodW M (confs n k 0) ws L) : ∀ (v : Nat) (i j : Nat), i < (confs n k 0).length → j < (confs n k 0).length → (nth ws j).toNat ≤ v → nth ws i = nth ws j + mvC M (row (confs n k 0) j) (row (confs n k 0) i) →
    ∃ q, q < (confs n k 0).length ∧ supOk M (confs n k 0) ws q = true ∧ nth ws i = nth ws q + mvC M (row (confs n k 0) q) (row (confs n k 0) i) := by
  intro v
  induction v with
  | zero =>
    intro i j hi hj hv he
    cases hs : supOk M (confs n k 0) ws j with
    | true => exact ⟨j, hj, hs, he⟩
    | false =>
      exfalso
      rw [supOk, decide_eq_false_iff_not] at hs
      refine hs fun l hl => ?_
      by_cases e : j = l
      · exact .inl e
      · refine .inr ?_
        obtain ⟨a1, a2, a3⟩ := row_conf hj
        obtain ⟨b1, b2, b3⟩ := row_conf hl
        have h0 := mvC_in hd b2 a2 (by rw [b1, a1]) (by omega)
        have h1 := hg.2 j hj
        have h2 := hg.2 l hl
        have hz : mvC M (row (confs n k 0) l) (row (confs n k 0) j) ≠ 0 := fun hz => by
          have hp := (mvC_zero hd b2 a2 (by rw [b1, a1]) (by omega)).1 hz
          have hr := asc_uniq b3 a3 hp
          have := congrArg (atR (confs n k 0)) hr
          rw [atR_row hl, atR_row hj] at this
          exact e this.symm
        omega
  | succ v ih =>
    intro i j hi hj hv he
    cases hs : supOk M (confs n k 0) ws j with
    | true => exact ⟨j, hj, hs, he⟩
    | false =>
      rw [supOk, decide_eq_false_iff_not] at hs
      have hs2 : ∃ l, l < (confs n k 0).length ∧ j ≠ l ∧ nth ws l + mvC M (row (confs n k 0) l) (row (confs n k 0) j) ≤ nth ws j := by
        refine Classical.byContradiction fun hn => hs fun l hl => ?_
        by_cases e : j = l
        · exact .inl e
        · refine .inr ?_
          refine Classical.byContradiction fun hlt => hn ⟨l, hl, e, by omega⟩
      obtain ⟨l, hl, hjl, hle⟩ := hs2
      obtain ⟨a1, a2, a3⟩ := row_conf hj
      obtain ⟨b1, b2, b3⟩ := row_conf hl
      obtain ⟨c1, c2, c3⟩ := row_conf hi
      have h0 := mvC_in hd b2 a2 (by rw [b1, a1]) (by omega)
      have h1 := hg.2 j hj
      have h2 := hg.2 l hl
      have hz : mvC M (row (confs n k 0) l) (row (confs n k 0) j) ≠ 0 := fun hz => by
        have hp := (mvC_zero hd b2 a2 (by rw [b1, a1]) (by omega)).1 hz
        have hr := asc_uniq b3 a3 hp
        have := congrArg (atR (confs n k 0)) hr
        rw [atR_row hl, atR_row hj] at this
        exact hjl this.symm
      have htri := mvC_tri hd b2 a2 c2 (by rw [b1, a1]) (by rw [a1, c1]) (by omega)
      have hlip := hg.1.2 i l hi hl
      have hsym := mvC_symm hd c2 b2 (by rw [c1, b1]) (by omega)
      exact ih i l hi hl (by omega) (by omega)
/-- the work list below its own support is the work list -/
theorem sup_again {M : List (List Int)} {k : Nat} {ws : List Int} (hM : metB M = true) (hk : 1 ≤ k ∧ k ≤ 3) (hg : GoodW M (confs M.length k 0) ws 99999) :
    (1 ≤ (supTo M (confs M.length k 0) ws (confs M.length k 0).length).length) ∧
    ∀ i, i < (confs M.length k 0).length → fsAt M ((supTo M (confs M.length k 0) ws (confs M.length k 0).length).map (row (confs M.length k 0))) ((supTo M (confs M.length k 0) ws (confs M.length k 0).length).map (nth ws)) (row (confs M.length k 0) i) ((supTo M (confs M.length k 0) ws (confs M.length k 0).length).map (row (confs M.length k 0))).length = nth ws i := by
  have hd := dst_of_met hM
  have hMl := met_len hM
  have hcp := confs_pos (n := M.length) (k := k) hMl.1
  have hfrom : ∀ i, i < (confs M.length k 0).length → ∃ q, q < (confs M.length k 0).length ∧ supOk M (confs M.length k 0) ws q = true ∧ nth ws i = nth ws q + mvC M (row (confs M.length k 0) q) (row (confs M.length k 0) i) := fun i hi => by
    obtain ⟨a1, a2, a3⟩ := row_conf hi
    exact sup_from hd hk.2 hg _ i i hi hi (Nat.le_refl _) (by rw [(mvC_zero hd a2 a2 rfl (by omega)).2 (List.Perm.refl _)]; omega)
  obtain ⟨T, hT⟩ : ∃ T, T = supTo M (confs M.length k 0) ws (confs M.length k 0).length := ⟨_, rfl⟩
  have hmem : ∀ q, q ∈ T ↔ q < (confs M.length k 0).length ∧ supOk M (confs M.length k 0) ws q = true := fun q => by rw [hT]; exact sup_mem
  rw [← hT]
  have hT1 : 1 ≤ T.length := by
    obtain ⟨q, h1, h2, _⟩ := hfrom 0 (by omega)
    exact List.length_pos_of_mem ((hmem q).2 ⟨h1, h2⟩)
  refine ⟨hT1, fun i hi => ?_⟩
  rw [List.length_map]
  obtain ⟨c1, c2, c3⟩ := row_conf hi
  have hrow : ∀ t (ht : t < T.length), row (T.map (row (confs M.length k 0))) t = row (confs M.length k 0) T[t] ∧ nth (T.map (nth ws)) t = nth ws T[t] ∧ T[t] < (confs M.length k 0).length := fun t ht => ⟨row_map ht, nth_mapN ht, ((hmem _).1 (List.getElem_mem ht)).1⟩
  have hpos : ∀ t, t < T.length → 0 ≤ nth (T.map (nth ws)) t + mvC M (row (T.map (row (confs M.length k 0))) t) (row (confs M.length k 0) i) := fun t ht => by
    obtain ⟨e1, e2, e3⟩ := hrow t ht
    obtain ⟨b1, b2, b3⟩ := row_conf e3
    have h0 := mvC_in hd b2 c2 (by rw [b1, c1]) (by omega)
    have h1 := hg.2 _ e3
    rw [e1, e2]
    omega
  obtain ⟨g1, t, ht, g2⟩ := fs_least (M := M) (C := T.map (row (confs M.length k 0))) (V := T.map (nth ws)) (x := row (confs M.length k 0) i) T.length hT1 hpos
  obtain ⟨q, q1, q2, q3⟩ := hfrom i hi
  obtain ⟨s, hs, es⟩ := List.getElem_of_mem ((hmem q).2 ⟨q1, q2⟩)
  have h1 := g1 s hs
  obtain ⟨e1, e2, e3⟩ := hrow s hs
  rw [e1, e2, es] at h1
  obtain ⟨f1, f2, f3⟩ := hrow t ht
  obtain ⟨b1, b2, b3⟩ := row_conf f3
  rw [f1, f2] at g2
  have hlip := hg.1.2 i T[t] hi f3
  have hsym := mvC_symm hd b2 c2 (by rw [b1, c1]) (by omega)
  omega
theorem confs_56 {n k : Nat} (hn : n ≤ 6) (hk : k ≤ 3) : (confs n k 0).length ≤ 56 := by
  have h : ∀ n, n < 7 → ∀ k, k < 4 → (confs n k 0).length ≤ 56 := by decide
  exact h n (by omega) k (by omega)
/-- the support of a work list, and its values -/
def supR (M : List (List Int)) (k : Int) (ws : List Int) : List (List Int) := if iwB M k ws then (supTo M (confs M.length k.toNat 0) ws (confs M.length k.toNat 0).length).map (row (confs M.length k.toNat 0)) else []
def supK (M : List (List Int)) (k : Int) (ws : List Int) : List Int := (supTo M (confs M.length k.toNat 0) ws (confs M.length k.toNat 0).length).map (nth ws)
/-- the law of the support -/
theorem sup_law {M : List (List Int)} {k : Int} {ws : List Int} (h : iwB M k ws = true) : (supR M k ws).length = (supK M k ws).length ∧ (supR M k ws).length ≤ 56 ∧ fsB M (supR M k ws) (supK M k ws) = true ∧ fsR M (supR M k ws) (supK M k ws) = ws ∧
    (∀ i, i < (supR M k ws).length → woR M k ws (row (supR M k ws) i) = nth (supK M k ws) i) ∧ ∀ y ∈ supK M k ws, 0 ≤ y ∧ y ≤ 99999 := by
  have h' := h
  rw [iwB, Bool.and_eq_true] at h'
  obtain ⟨hM, hk1, hk3⟩ := askB_iff.1 h'.1
  obtain ⟨kn, rfl⟩ := Int.eq_ofNat_of_zero_le (show 0 ≤ k by omega)
  rw [Int.toNat_natCast] at h'
  have hg := work_good h'.2
  have hMl := met_len hM
  have hd := dst_of_met hM
  obtain ⟨hT1, hag⟩ := sup_again hM (k := kn) (by omega) hg
  have e1 : supR M kn ws = (supTo M (confs M.length kn 0) ws (confs M.length kn 0).length).map (row (confs M.length kn 0)) := by rw [supR, if_pos h, Int.toNat_natCast]
  have e2 : supK M kn ws = (supTo M (confs M.length kn 0) ws (confs M.length kn 0).length).map (nth ws) := by rw [supK, Int.toNat_natCast]
  rw [e1, e2]
  have hTl := sup_len (M := M) (P := confs M.length kn 0) (ws := ws) (confs M.length kn 0).length
  have h56 := confs_56 (n := M.length) (k := kn) hMl.2 (by omega)
  have hmem : ∀ q, q ∈ supTo M (confs M.length kn 0) ws (confs M.length kn 0).length → q < (confs M.length kn 0).length := fun q hq => (sup_mem.1 hq).1
  generalize supTo M (confs M.length kn 0) ws (confs M.length kn 0).length = T at *
  have hrow : ∀ t (ht : t < T.length), row (T.map (row (confs M.length kn 0))) t = row (confs M.length kn 0) T[t] ∧ nth (T.map (nth ws)) t = nth ws T[t] ∧ T[t] < (confs M.length kn 0).length := fun t ht => ⟨row_map ht, nth_mapN ht, hmem _ (List.getElem_mem ht)⟩
  have hcf : ∀ t (ht : t < T.length), (row (T.map (row (confs M.length kn 0))) t).length = kn ∧ cfgB M.length (row (T.map (row (confs M.length kn 0))) t) = true := fun t ht => by
    obtain ⟨f1, _, f3⟩ := hrow t ht
    rw [f1]
    obtain ⟨c1, c2, c3⟩ := row_conf f3
    exact ⟨c1, cfgB_iff.2 ⟨by rw [c1]; omega, c2, c3⟩⟩
  have hl : (T.map (row (confs M.length kn 0))).length = T.length := by simp
  have hV : ∀ y ∈ T.map (nth ws), 0 ≤ y ∧ y ≤ 99999 := fun y hy => by
    obtain ⟨q, hq, rfl⟩ := List.mem_map.1 hy
    exact hg.2 q (hmem q hq)
  have h0 := (hcf 0 (by omega)).1
  have hok : fsOk M (T.map (row (confs M.length kn 0))) (T.map (nth ws)) = true := fsOk_iff.2 ⟨hM, by rw [hl]; omega, by simp, fun i hi => by
    rw [hl] at hi
    have := hV _ (nth_mem (xs := T.map (nth ws)) (k := i) (by simp; exact hi))
    exact fsC_iff.2 ⟨by rw [h0, (hcf i hi).1], (hcf i hi).2, by omega, by omega⟩⟩
  have hfv : fsV M (T.map (row (confs M.length kn 0))) (T.map (nth ws)) = ws := by
    have hvl : (fsV M (T.map (row (confs M.length kn 0))) (T.map (nth ws))).length = ws.length := by rw [fsV_len, h0]; exact hg.1.1.symm
    refine List.ext_getElem hvl fun i h1 h2 => ?_
    have hi : i < (confs M.length kn 0).length := by rw [← hg.1.1]; exact h2
    have h3 := fsV_at (M := M) (C := T.map (row (confs M.length kn 0))) (V := T.map (nth ws)) (i := i) (by rw [h0]; exact hi)
    rw [h0, hag i hi] at h3
    simpa [nth, h1, h2] using h3
  have hfb : fsB M (T.map (row (confs M.length kn 0))) (T.map (nth ws)) = true := by
    rw [fsB, hok, hfv, Bool.true_and]
    refine List.all_eq_true.2 fun y hy => ?_
    obtain ⟨j, hj, rfl⟩ := mem_iff_nth.1 hy
    have := hg.2 j (by rw [← hg.1.1]; exact hj)
    exact decide_eq_true (by omega)
  refine ⟨by simp, by rw [hl]; omega, hfb, by rw [fsR, hfb]; exact hfv, fun i hi => ?_, hV⟩
  rw [hl] at hi
  obtain ⟨f1, f2, f3⟩ := hrow i hi
  obtain ⟨c1, c2⟩ := hcf i hi
  have hwo : woB M kn ws (row (T.map (row (confs M.length kn 0))) i) = true := by rw [woB, h, c2]; simp [c1]
  rw [woR, if_pos hwo, Int.toNat_natCast, f2, f1, atR_row f3]
/-- what values of configurations make is a work list, at most those values -/
theorem fs_work {M C : List (List Int)} {V : List Int} (h : fsB M C V = true) : iwB M (row C 0).length (fsV M C V) = true ∧ ∀ j, j < C.length → woB M (row C 0).length (fsV M C V) (row C j) = true ∧ woR M (row C 0).length (fsV M C V) (row C j) ≤ nth V j := by
  have h' := h
  rw [fsB, Bool.and_eq_true] at h'
  obtain ⟨hok, hall⟩ := h'
  obtain ⟨hd, hk, hC, hV, hc⟩ := fs_all hok
  have hM : metB M = true := (fsOk_iff.1 hok).1
  have hlen := fsV_len (M := M) (C := C) (V := V)
  have hpos : ∀ i, i < (confs M.length (row C 0).length 0).length → ∀ t, t < C.length → 0 ≤ nth V t + mvC M (row C t) (row (confs M.length (row C 0).length 0) i) := fun i hi t ht => by
    have := fs_mv hok (row_mem hi) t ht
    omega
  have hlip : LipW M (confs M.length (row C 0).length 0) (fsV M C V) := by
    refine ⟨hlen, fun i j hi hj => ?_⟩
    rw [fsV_at hi, fsV_at hj]
    obtain ⟨g1, _⟩ := fs_least C.length hC.1 (hpos i hi)
    obtain ⟨_, t, ht, g2⟩ := fs_least C.length hC.1 (hpos j hj)
    have g3 := g1 t ht
    obtain ⟨a1, a2, _⟩ := row_conf hi
    obtain ⟨b1, b2, _⟩ := row_conf hj
    obtain ⟨c1, c2⟩ := conf_pts (hc t ht).1
    have htri := mvC_tri hd c2 b2 a2 (by rw [c1, b1]) (by rw [b1, a1]) (by omega)
    have hsym := mvC_symm hd a2 b2 (by rw [a1, b1]) (by omega)
    omega
  have hbel : belowB 100000 (fsV M C V) = true := belowB_of fun j hj => inB_true.2 (by
    have h1 := (List.all_eq_true.1 hall) _ (nth_mem hj)
    have h2 := fsV_i64 hok _ (nth_mem hj)
    have h1' := of_decide_eq_true h1
    omega)
  have hask : askB M ((row C 0).length : Int) = true := askB_iff.2 ⟨hM, by omega, by omega⟩
  have hiw : iwB M (row C 0).length (fsV M C V) = true := by
    rw [iwB, hask, Int.toNat_natCast, work_of hlip hbel]
    rfl
  refine ⟨hiw, fun j hj => ?_⟩
  obtain ⟨hm, _⟩ := hc j hj
  obtain ⟨c1, c2⟩ := conf_pts hm
  obtain ⟨_, c3, _⟩ := confs_iff.1 hm
  have hcf : cfgB M.length (row C j) = true := cfgB_iff.2 ⟨by rw [c1]; exact hk, c2, c3⟩
  have hwo : woB M (row C 0).length (fsV M C V) (row C j) = true := by rw [woB, hiw, hcf]; simp [c1]
  refine ⟨hwo, ?_⟩
  rw [woR, if_pos hwo, Int.toNat_natCast]
  obtain ⟨ij, ej⟩ := atR_lt hm
  rw [fsV_at ij]
  have g1 := (fs_least C.length hC.1 (hpos _ ij)).1 j hj
  rw [ej, (mvC_zero hd c2 c2 rfl (by omega)).2 (List.Perm.refl _)] at g1
  rw [ej]
  omega
end Go.Proofs.Ytkibmjenjgijmaa
