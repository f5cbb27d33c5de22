/- Plain law: work lists stay good; the choice of the work function algorithm. -/
import Derived.Test.YtpiplhgiphndeaaNxtQ
import Derived.Test.YtpiplhgiphndeaaGrF
namespace Go.Proofs.Ytpiplhgiphndeaa
open Go.RowKit

--PURE
/-- a work list with values up to a limit -/
def GoodW (M P : List (List Int)) (ws : List Int) (L : Int) : Prop := LipW M P ws ∧ ∀ j, j < P.length → 0 ≤ nth ws j ∧ nth ws j ≤ L
theorem GoodW.mono {M P : List (List Int)} {ws : List Int} {L L' : Int} (h : GoodW M P ws L) (hl : L ≤ L') : GoodW M P ws L' := ⟨h.1, fun j hj => ⟨(h.2 j hj).1, Int.le_trans (h.2 j hj).2 hl⟩⟩
theorem wnx_at {M P : List (List Int)} {ws : List Int} {r : Int} {i : Nat} (h : i < ws.length) : nth (wnxL M P ws r) i = wxAt M P ws r P.length i := by rw [wnxL, nth_wxL h, if_neg (by omega)]
theorem wnxL_len {M P : List (List Int)} {ws : List Int} {r : Int} : (wnxL M P ws r).length = ws.length := wxL_length _ _ _ _ _ _
theorem wnx_way {M : List (List Int)} {n k i : Nat} {r L : Int} {ws : List Int} (hd : Dst M n) (h1 : 1 ≤ k) (hk : k ≤ 3) (hg : GoodW M (confs n k 0) ws L) (hL : L ≤ 1000000) (hi : i < (confs n k 0).length) (hr : 0 ≤ r ∧ r < (n : Int)) :
    (∀ t, t < (confs n k 0).length → r ∈ row (confs n k 0) t → wxAt M (confs n k 0) ws r (confs n k 0).length i ≤ viS M (confs n k 0) ws i t) ∧
    ∃ t, t < (confs n k 0).length ∧ r ∈ row (confs n k 0) t ∧ wxAt M (confs n k 0) ws r (confs n k 0).length i = viS M (confs n k 0) ws i t := by
  obtain ⟨h4, h5, h6⟩ := wxAt_le (M := M) (P := confs n k 0) (ws := ws) (r := r) (i := i) (confs n k 0).length
  refine ⟨h5, ?_⟩
  rcases h6 with h6 | h6
  · obtain ⟨j, hj, hrj, hle⟩ := sw_via (ws := ws) (s := 0) hd hk hi (by omega) hr
    have h7 := h5 j hj hrj
    obtain ⟨g1, g2, g3⟩ := row_conf hi
    obtain ⟨hm, _⟩ := sw_conf (s := 0) hi (by omega) hr
    have h8 := hg.2 _ (atR_lt hm).1
    have h9 := g2 _ (nth_mem (show 0 < (row (confs n k 0) i).length by omega))
    have h10 := hd.pos (nth (row (confs n k 0) i) 0).toNat r.toNat (by omega) (by omega)
    unfold swS at hle
    omega
  · exact h6
/-- one more request: the work list is good, and its values are not much greater -/
theorem wnx_good {M : List (List Int)} {n k : Nat} {r L : Int} {ws : List Int} (hd : Dst M n) (h1 : 1 ≤ k) (hk : k ≤ 3) (hg : GoodW M (confs n k 0) ws L) (hL : L ≤ 1000000) (hr : 0 ≤ r ∧ r < (n : Int)) :
    GoodW M (confs n k 0) (wnxL M (confs n k 0) ws r) (L + 198) ∧ ∀ i, i < (confs n k 0).length → nth ws i ≤ nth (wnxL M (confs n k 0) ws r) i := by
  have hlen := hg.1.1
  have hge : ∀ i, i < (confs n k 0).length → nth ws i ≤ nth (wnxL M (confs n k 0) ws r) i := fun i hi => by
    obtain ⟨_, t, ht, _, h6⟩ := wnx_way hd h1 hk hg hL hi hr
    rw [wnx_at (by omega), h6]
    exact via_ge hd hk hg.1 hi ht
  refine ⟨⟨⟨by rw [wnxL_len, hlen], fun i q hi hq => ?_⟩, fun i hi => ⟨?_, ?_⟩⟩, hge⟩
  · obtain ⟨h5, _⟩ := wnx_way hd h1 hk hg hL hi hr
    obtain ⟨_, t, ht, hrt, h6⟩ := wnx_way hd h1 hk hg hL hq hr
    rw [wnx_at (by omega), wnx_at (by omega), h6]
    have h7 := h5 t ht hrt
    have h8 := via_lip (ws := ws) hd hk hi hq ht
    obtain ⟨g1, g2, g3⟩ := row_conf hi
    obtain ⟨f1, f2, f3⟩ := row_conf hq
    have := mvC_symm hd g2 f2 (by rw [g1, f1]) (by omega)
    omega
  · have := hge i hi
    have := (hg.2 i hi).1
    omega
  · obtain ⟨h5, _⟩ := wnx_way hd h1 hk hg hL hi hr
    obtain ⟨j, hj, hrj, hle⟩ := sw_via (ws := ws) (s := 0) hd hk hi (by omega) hr
    obtain ⟨g1, g2, g3⟩ := row_conf hi
    obtain ⟨hm, _⟩ := sw_conf (s := 0) hi (by omega) hr
    obtain ⟨hlt, hrow⟩ := atR_lt hm
    have hlip := hg.1.2 _ i hlt hi
    rw [hrow] at hlip
    have hpts : Pts n (swC (confs n k 0) r i 0) := (g2.set hr).perm (sortL_perm _)
    have h9 := g2 _ (nth_mem (show 0 < (row (confs n k 0) i).length by omega))
    have h10 := hd.pos (nth (row (confs n k 0) i) 0).toNat r.toNat (by omega) (by omega)
    have hset := mvC_set hd (s := 0) (r := r) g2 hr (by omega) (by omega)
    have hp := mvC_permR hd (sortL_perm ((row (confs n k 0) i).set 0 r)).symm g2 (g2.set hr) (by simp) (by omega)
    have hsy := mvC_symm hd g2 hpts (by rw [swC, sortL_len, List.length_set]) (by omega)
    have h7 := h5 j hj hrj
    have h8 := (hg.2 i hi).2
    rw [wnx_at (by omega)]
    unfold swS at hle
    unfold swC at *
    omega
/-- the work list of the empty sequence -/
theorem start_good {M : List (List Int)} {n k : Nat} {a : List Int} (hd : Dst M n) (hk : k ≤ 3) (ha : a ∈ confs n k 0) : GoodW M (confs n k 0) ((confs n k 0).map fun b => mvC M a b) 297 := by
  obtain ⟨h1, h2, h3⟩ := confs_iff.1 ha
  have hpa : Pts n a := fun x hx => by have := h3 x hx; omega
  have hnth : ∀ i, i < (confs n k 0).length → nth ((confs n k 0).map fun b => mvC M a b) i = mvC M a (row (confs n k 0) i) := fun i hi => by simp [nth, row, hi]
  refine ⟨⟨by simp, fun i j hi hj => ?_⟩, fun j hj => ?_⟩
  · obtain ⟨g1, g2, g3⟩ := row_conf hi
    obtain ⟨f1, f2, f3⟩ := row_conf hj
    rw [hnth i hi, hnth j hj]
    have := mvC_tri hd hpa f2 g2 (by rw [h1, f1]) (by rw [f1, g1]) (by omega)
    have := mvC_symm hd g2 f2 (by rw [g1, f1]) (by omega)
    omega
  · obtain ⟨f1, f2, f3⟩ := row_conf hj
    rw [hnth j hj]
    have := mvC_in hd hpa f2 (by rw [h1, f1]) (by omega)
    omega
theorem work_good {M : List (List Int)} {P : List (List Int)} {ws : List Int} (h : workB M P ws = true) : GoodW M P ws 99999 := by
  simp only [workB, Bool.and_eq_true, decide_eq_true_eq] at h
  obtain ⟨h1, h2, h3⟩ := h
  simp only [lipB, decide_eq_true_eq] at h3
  refine ⟨⟨h1, fun i j hi hj => h3 i (by omega) j (by omega)⟩, fun j hj => ?_⟩
  have := belowB_at h2 (k := j) (by omega)
  omega

/-- the s-th server moved to r; the sum -/
def svX (a : List Int) (r : Int) (s : Nat) : List Int := sortL (a.set s r)
def svN (M P : List (List Int)) (nx a : List Int) (r : Int) (s : Nat) : Int := nth nx (atR P (svX a r s)) + cell M (nth a s).toNat r.toNat
/-- the best one of the first servers, its cost, its sum -/
def svT (M P : List (List Int)) (nx a : List Int) (r : Int) : Nat → List Int × Int × Int
  | 0 => ([], 0, 1073741824)
  | s + 1 => if svN M P nx a r s < (svT M P nx a r s).2.2 ∨ (svN M P nx a r s = (svT M P nx a r s).2.2 ∧ lexC (svX a r s) (svT M P nx a r s).1 < 0) then (svX a r s, cell M (nth a s).toNat r.toNat, svN M P nx a r s) else svT M P nx a r s
def svC (M P : List (List Int)) (nx a : List Int) (r : Int) : List Int := if hasB a r then a else (svT M P nx a r a.length).1
def svK (M P : List (List Int)) (nx a : List Int) (r : Int) : Int := if hasB a r then 0 else (svT M P nx a r a.length).2.1
theorem svT_at {M P : List (List Int)} {nx a : List Int} {r : Int} : ∀ {s : Nat}, (∀ t, t < s → svN M P nx a r t < 1073741824) → 1 ≤ s → ∃ t, t < s ∧ svT M P nx a r s = (svX a r t, cell M (nth a t).toNat r.toNat, svN M P nx a r t) := by
  intro s
  induction s with
  | zero => intro _ h; omega
  | succ s ih =>
    intro h _
    rw [svT]
    split
    · exact ⟨s, by omega, rfl⟩
    · rename_i hn
      by_cases hs : s = 0
      · subst hs
        exact absurd (.inl (h 0 (by omega))) hn
      · obtain ⟨t, ht, h2⟩ := ih (fun t ht => h t (by omega)) (by omega)
        exact ⟨t, by omega, h2⟩
theorem set_conf {n k s : Nat} {r : Int} {a : List Int} (ha : a ∈ confs n k 0) (hs : s < k) (hr : 0 ≤ r ∧ r < (n : Int)) : svX a r s ∈ confs n k 0 ∧ r ∈ svX a r s := by
  obtain ⟨h1, h2, h3⟩ := confs_iff.1 ha
  have hpa : Pts n a := fun x hx => by have := h3 x hx; omega
  refine ⟨confs_iff.2 ⟨by rw [svX, sortL_len, List.length_set, h1], sortL_asc _, fun x hx => ?_⟩, ?_⟩
  · have h4 := (sortL_perm _).mem_iff.1 hx
    have := hpa.set (s := s) hr x h4
    omega
  · refine (sortL_perm _).mem_iff.2 ?_
    rw [List.mem_iff_getElem]
    exact ⟨s, by rw [List.length_set, h1]; exact hs, by simp⟩
theorem svN_in {M : List (List Int)} {n k s : Nat} {r L : Int} {nx a : List Int} (hd : Dst M n) (hg : GoodW M (confs n k 0) nx L) (ha : a ∈ confs n k 0) (hs : s < k) (hr : 0 ≤ r ∧ r < (n : Int)) : 0 ≤ svN M (confs n k 0) nx a r s ∧ svN M (confs n k 0) nx a r s ≤ L + 99 := by
  obtain ⟨hm, _⟩ := set_conf ha hs hr
  obtain ⟨h1, h2, h3⟩ := confs_iff.1 ha
  have h4 := hg.2 _ (atR_lt hm).1
  have h5 := h3 _ (nth_mem (show s < a.length by omega))
  have h6 := hd.pos (nth a s).toNat r.toNat (by omega) (by omega)
  unfold svN
  omega
/-- the choice is a configuration with the point, and the cost is a distance -/
theorem sv_conf {M : List (List Int)} {n k : Nat} {r L : Int} {nx a : List Int} (hd : Dst M n) (h1k : 1 ≤ k) (hg : GoodW M (confs n k 0) nx L) (hL : L ≤ 2000000) (ha : a ∈ confs n k 0) (hr : 0 ≤ r ∧ r < (n : Int)) :
    svC M (confs n k 0) nx a r ∈ confs n k 0 ∧ r ∈ svC M (confs n k 0) nx a r ∧ 0 ≤ svK M (confs n k 0) nx a r ∧ svK M (confs n k 0) nx a r ≤ 99 := by
  obtain ⟨h1, h2, h3⟩ := confs_iff.1 ha
  cases hh : hasB a r with
  | true =>
    rw [svC, svK, hh]
    exact ⟨ha, hasB_true.1 hh, by simp, by simp⟩
  | false =>
    rw [svC, svK, hh]
    obtain ⟨t, ht, h4⟩ := svT_at (M := M) (P := confs n k 0) (nx := nx) (a := a) (r := r) (s := a.length) (fun t ht => by have := (svN_in hd hg ha (s := t) (by omega) hr).2; omega) (by omega)
    obtain ⟨h5, h6⟩ := set_conf ha (s := t) (by omega) hr
    have h7 := h3 _ (nth_mem ht)
    have h8 := hd.pos (nth a t).toNat r.toNat (by omega) (by omega)
    simp only [h4]
    exact ⟨h5, h6, h8.1, h8.2⟩
/-- the program's moved configuration is the reference's -/
theorem mov_sv {a : List Int} {r : Int} {s : Nat} (hs : s < a.length) : movL a (nth a s) r = svX a r s := by
  have hm := nth_mem hs
  obtain ⟨h1, h2, h3⟩ := ixOf_in hm
  unfold movL svX
  refine asc_uniq (sortL_asc _) (sortL_asc _) ((sortL_perm _).trans (List.Perm.trans ?_ (sortL_perm _).symm))
  have hi : (ixOf a (nth a s)).toNat < a.length := by omega
  generalize (ixOf a (nth a s)).toNat = i at *
  have e1 := perm_set a i r hi
  have e2 := perm_set a s r hs
  refine e1.trans (List.Perm.trans (List.Perm.cons r ?_) e2.symm)
  have f1 := perm_set a i a[i] hi
  have f2 := perm_set a s a[s] hs
  rw [List.set_getElem_self] at f1 f2
  have e : a[i] = a[s] := by simpa [nth, hi, hs] using h3
  have g := f1.symm.trans f2
  rw [e] at g
  exact (List.perm_cons _).1 g
/-- the reference's least: -1 ahead of the first -/
def svL (M P : List (List Int)) (nx a : List Int) (r : Int) (s : Nat) : Int := if s = 0 then -1 else (svT M P nx a r s).2.2
def svQ (M P : List (List Int)) (nx a : List Int) (r : Int) (s : Nat) : Prop := svN M P nx a r s < (svT M P nx a r s).2.2 ∨ (svN M P nx a r s = (svT M P nx a r s).2.2 ∧ lexC (svX a r s) (svT M P nx a r s).1 < 0)
theorem svT_yes {M P : List (List Int)} {nx a : List Int} {r : Int} {s : Nat} (h : svN M P nx a r s < (svT M P nx a r s).2.2 ∨ (svN M P nx a r s = (svT M P nx a r s).2.2 ∧ lexC (svX a r s) (svT M P nx a r s).1 < 0)) : svT M P nx a r (s + 1) = (svX a r s, cell M (nth a s).toNat r.toNat, svN M P nx a r s) := by rw [svT, if_pos h]
theorem svT_no {M P : List (List Int)} {nx a : List Int} {r : Int} {s : Nat} (h : ¬ (svN M P nx a r s < (svT M P nx a r s).2.2 ∨ (svN M P nx a r s = (svT M P nx a r s).2.2 ∧ lexC (svX a r s) (svT M P nx a r s).1 < 0))) : svT M P nx a r (s + 1) = svT M P nx a r s := by rw [svT, if_neg h]

/-- the greatest number of a list -/
def grtL (xs : List Int) : Int := xs.foldl max 0
theorem grtL_snoc (xs : List Int) (x : Int) : grtL (xs ++ [x]) = max (grtL xs) x := by simp [grtL]
theorem grtL_ge : ∀ (xs : List Int) (b : Int), b ≤ xs.foldl max b ∧ ∀ x ∈ xs, x ≤ xs.foldl max b
  | [], b => ⟨Int.le_refl _, by simp⟩
  | y :: xs, b => by
    obtain ⟨h1, h2⟩ := grtL_ge xs (max b y)
    refine ⟨by simp only [List.foldl_cons]; omega, fun x hx => ?_⟩
    simp only [List.foldl_cons]
    rcases List.mem_cons.1 hx with rfl | hx
    · omega
    · exact h2 x hx
theorem grtL_or : ∀ (xs : List Int) (b : Int), xs.foldl max b = b ∨ xs.foldl max b ∈ xs
  | [], b => .inl rfl
  | y :: xs, b => by
    simp only [List.foldl_cons]
    rcases grtL_or xs (max b y) with h | h
    · rw [h]
      by_cases hb : b ≤ y
      · exact .inr (by rw [show max b y = y by omega]; simp)
      · exact .inl (by omega)
    · exact .inr (List.mem_cons_of_mem _ h)
theorem grtL_below {xs : List Int} (h : ∀ x ∈ xs, 0 ≤ x) : decide (99999 < grtL xs) = !belowB 100000 xs := by
  cases hb : belowB 100000 xs with
  | true =>
    have : ¬ 99999 < grtL xs := by
      intro h'
      rcases grtL_or xs 0 with h1 | h1
      · rw [grtL, h1] at h'; omega
      · obtain ⟨k, hk, h2⟩ := mem_iff_nth.1 h1
        have := belowB_at hb hk
        rw [grtL] at h'
        omega
    simp [this]
  | false =>
    have : 99999 < grtL xs := by
      by_cases h' : 99999 < grtL xs
      · exact h'
      · exfalso
        have : belowB 100000 xs = true := belowB_of fun k hk => inB_true.2 ⟨h _ (nth_mem hk), by have := (grtL_ge xs 0).2 _ (nth_mem hk); rw [grtL] at h'; omega⟩
        rw [this] at hb
        cases hb
    simp [this]
theorem grtL_in {xs : List Int} {b : Int} (h0 : 0 ≤ b) (h : ∀ x ∈ xs, x ≤ b) : 0 ≤ grtL xs ∧ grtL xs ≤ b := by
  refine ⟨(grtL_ge xs 0).1, ?_⟩
  rcases grtL_or xs 0 with h1 | h1
  · rw [grtL, h1]; exact h0
  · exact h _ h1
end Go.Proofs.Ytpiplhgiphndeaa
