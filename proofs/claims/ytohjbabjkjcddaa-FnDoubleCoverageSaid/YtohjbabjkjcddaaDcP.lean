/- Double coverage on a line, in plain words: its cost and the least cost of all rows. -/
import Derived.Test.YtohjbabjkjcddaaSrt
namespace Go.Proofs.Ytohjbabjkjcddaa
open Go.RowKit

/-- how far two places are apart -/
def dst (x y : Int) : Int := ((x - y).natAbs : Nat)
theorem dst_nn (x y : Int) : 0 ≤ dst x y := by unfold dst; omega
theorem dst_self (x : Int) : dst x x = 0 := by unfold dst; omega
theorem dst_tri (x y z : Int) : dst x z ≤ dst x y + dst y z := by unfold dst; omega
theorem dst_comm (x y : Int) : dst x y = dst y x := by unfold dst; omega
/-- the distance of two rows -/
def apL : List Int → List Int → Int
  | x :: xs, y :: ys => dst x y + apL xs ys
  | _, _ => 0
theorem apL_nn : ∀ (a b : List Int), 0 ≤ apL a b
  | [], _ => Int.le_refl _
  | _ :: _, [] => Int.le_refl _
  | x :: a, y :: b => by
    have h1 := apL_nn a b
    have h2 := dst_nn x y
    show 0 ≤ dst x y + apL a b
    omega
theorem apL_self : ∀ (a : List Int), apL a a = 0
  | [] => rfl
  | x :: a => by
    show dst x x + apL a a = 0
    rw [dst_self, apL_self a]; rfl
theorem apL_set : ∀ {a b : List Int} {k : Nat} (r : Int), a.length = b.length → k < a.length → apL (a.set k r) (b.set k r) + dst (nth a k) (nth b k) = apL a b
  | [], _, _, _, _, hk => absurd hk (Nat.not_lt_zero _)
  | _ :: _, [], _, _, h, _ => by simp at h
  | x :: a, y :: b, 0, r, _, _ => by
    show dst r r + apL a b + dst x y = dst x y + apL a b
    rw [dst_self]; omega
  | x :: a, y :: b, k + 1, r, h, hk => by
    have ih := apL_set (a := a) (b := b) (k := k) r (by simpa using h) (by simpa using hk)
    show dst x y + apL (a.set k r) (b.set k r) + dst (nth a k) (nth b k) = dst x y + apL a b
    omega
theorem apL_set1 : ∀ {a : List Int} {k : Nat} (r : Int), k < a.length → apL a (a.set k r) = dst (nth a k) r
  | [], _, _, hk => absurd hk (Nat.not_lt_zero _)
  | x :: a, 0, r, _ => by
    show dst x r + apL a a = dst x r
    rw [apL_self]; omega
  | x :: a, k + 1, r, hk => by
    have ih := apL_set1 (a := a) (k := k) r (by simpa using hk)
    show dst x x + apL a (a.set k r) = dst (nth a k) r
    rw [dst_self]; omega
theorem apL_tri : ∀ {a b c : List Int}, a.length = b.length → b.length = c.length → apL a c ≤ apL a b + apL b c
  | [], b, c, _, _ => by
    have h1 := apL_nn [] b
    have h2 := apL_nn b c
    show (0 : Int) ≤ _
    exact Int.add_nonneg h1 h2
  | _ :: _, [], _, h, _ => by simp at h
  | _ :: _, _ :: _, [], _, h => by simp at h
  | x :: a, y :: b, z :: c, h1, h2 => by
    have ih := apL_tri (a := a) (b := b) (c := c) (by simpa using h1) (by simpa using h2)
    have ht := dst_tri x y z
    show dst x z + apL a c ≤ dst x y + apL a b + (dst y z + apL b c)
    omega
/-- the least of a function's values at 0 .. n -/
def mn (f : Nat → Int) : Nat → Int
  | 0 => f 0
  | n + 1 => min (mn f n) (f (n + 1))
theorem mn_le {f : Nat → Int} : ∀ {n k : Nat}, k ≤ n → mn f n ≤ f k
  | 0, k, h => by rw [show k = 0 by omega]; exact Int.le_refl _
  | n + 1, k, h => by
    show min (mn f n) (f (n + 1)) ≤ f k
    by_cases e : k = n + 1
    · rw [e]; exact Int.min_le_right _ _
    · exact Int.le_trans (Int.min_le_left _ _) (mn_le (by omega))
theorem mn_at (f : Nat → Int) : ∀ n : Nat, ∃ k, k ≤ n ∧ mn f n = f k
  | 0 => ⟨0, Nat.le_refl _, rfl⟩
  | n + 1 => by
    obtain ⟨k, hk, e⟩ := mn_at f n
    by_cases h : mn f n ≤ f (n + 1)
    · exact ⟨k, by omega, by show min (mn f n) (f (n + 1)) = _; rw [Int.min_eq_left h, e]⟩
    · exact ⟨n + 1, Nat.le_refl _, by show min (mn f n) (f (n + 1)) = _; rw [Int.min_eq_right (by omega)]⟩
/-- the least sum of distances for requests -/
def vU : List Int → List Int → Int
  | [], _ => 0
  | r :: rs, a => mn (fun k => dst (nth a k) r + vU rs (a.set k r)) (a.length - 1)
theorem vU_nn : ∀ (rs a : List Int), 0 ≤ vU rs a
  | [], _ => Int.le_refl _
  | r :: rs, a => by
    obtain ⟨k, _, e⟩ := mn_at (fun k => dst (nth a k) r + vU rs (a.set k r)) (a.length - 1)
    show 0 ≤ mn _ _
    rw [e]
    have h1 := dst_nn (nth a k) r
    have h2 := vU_nn rs (a.set k r)
    show 0 ≤ dst (nth a k) r + vU rs (a.set k r)
    omega
theorem vU_step {r : Int} {rs a : List Int} {k : Nat} (hk : k < a.length) : vU (r :: rs) a ≤ dst (nth a k) r + vU rs (a.set k r) :=
  mn_le (f := fun k => dst (nth a k) r + vU rs (a.set k r)) (by omega)
theorem vU_some {r : Int} {rs a : List Int} (h : 0 < a.length) : ∃ k, k < a.length ∧ vU (r :: rs) a = dst (nth a k) r + vU rs (a.set k r) := by
  obtain ⟨k, hk, e⟩ := mn_at (fun k => dst (nth a k) r + vU rs (a.set k r)) (a.length - 1)
  exact ⟨k, by omega, e⟩
theorem vU_lip : ∀ (rs : List Int) {a b : List Int}, a.length = b.length → 0 < a.length → vU rs a ≤ apL a b + vU rs b
  | [], a, b, _, _ => by
    have := apL_nn a b
    show (0 : Int) ≤ apL a b + 0
    omega
  | r :: rs, a, b, h, h0 => by
    obtain ⟨k, hk, e⟩ := vU_some (r := r) (rs := rs) (a := b) (by omega)
    have h1 := vU_step (r := r) (rs := rs) (a := a) (k := k) (by omega)
    have h2 := vU_lip rs (a := a.set k r) (b := b.set k r) (by simpa using h) (by simpa using h0)
    have h3 := apL_set (a := a) (b := b) (k := k) r h (by omega)
    have h4 := dst_tri (nth a k) (nth b k) r
    omega
theorem set_split {a : List Int} {k : Nat} (r : Int) (hk : k < a.length) : (a.set k r).Perm (r :: (a.take k ++ a.drop (k + 1))) := by
  rw [List.set_eq_take_append_cons_drop, if_pos hk]
  exact List.perm_middle
theorem nth_split {a : List Int} {k : Nat} (hk : k < a.length) : a.Perm (nth a k :: (a.take k ++ a.drop (k + 1))) := by
  have h := set_split (nth a k) hk
  have e : a.set k (nth a k) = a := by
    rw [show nth a k = a[k] by rw [nth, List.getD_eq_getElem?_getD, List.getElem?_eq_getElem hk]; rfl]
    exact List.set_getElem_self hk
  rwa [e] at h
theorem mem_nth {a : List Int} {x : Int} (h : x ∈ a) : ∃ k, k < a.length ∧ nth a k = x := by
  obtain ⟨k, hk, e⟩ := List.getElem_of_mem h
  exact ⟨k, hk, by rw [nth, List.getD_eq_getElem?_getD, List.getElem?_eq_getElem hk]; exact e⟩
theorem perm_setU {a b : List Int} (p : a.Perm b) {k : Nat} (hk : k < b.length) (r : Int) : ∃ j, j < a.length ∧ nth a j = nth b k ∧ (a.set j r).Perm (b.set k r) := by
  have hm : nth b k ∈ a := p.mem_iff.2 (nth_mem hk)
  obtain ⟨j, hj, e⟩ := mem_nth hm
  refine ⟨j, hj, e, ?_⟩
  have h1 := nth_split hj
  have h2 := nth_split hk
  rw [e] at h1
  have h3 := (h1.symm.trans (p.trans h2)).cons_inv
  exact (set_split r hj).trans ((h3.cons r).trans (set_split r hk).symm)
theorem vU_perm_le : ∀ (rs : List Int) {a b : List Int}, a.Perm b → 0 < a.length → vU rs a ≤ vU rs b
  | [], _, _, _, _ => Int.le_refl _
  | r :: rs, a, b, p, h0 => by
    have hl := p.length_eq
    obtain ⟨k, hk, e⟩ := vU_some (r := r) (rs := rs) (a := b) (by omega)
    obtain ⟨j, hj, e2, p2⟩ := perm_setU p hk r
    have h1 := vU_step (r := r) (rs := rs) hj
    have h2 := vU_perm_le rs p2 (by simpa using h0)
    rw [e2] at h1
    omega
theorem vU_perm (rs : List Int) {a b : List Int} (p : a.Perm b) (h : 0 < a.length) : vU rs a = vU rs b :=
  Int.le_antisymm (vU_perm_le rs p h) (vU_perm_le rs p.symm (by have := p.length_eq; omega))
theorem set_nth_self {a : List Int} {k : Nat} (hk : k < a.length) : a.set k (nth a k) = a := by
  rw [show nth a k = a[k] by rw [nth, List.getD_eq_getElem?_getD, List.getElem?_eq_getElem hk]; rfl]
  exact List.set_getElem_self hk
/-- nobody moves for a request that is met -/
theorem vU_has {r : Int} {rs a : List Int} (h : r ∈ a) : vU (r :: rs) a = vU rs a := by
  obtain ⟨k, hk, e⟩ := mem_nth h
  have h1 := vU_step (r := r) (rs := rs) hk
  rw [e, dst_self, ← e, set_nth_self hk, e] at h1
  obtain ⟨j, hj, e2⟩ := vU_some (r := r) (rs := rs) (a := a) (by omega)
  have h2 := vU_lip rs (a := a) (b := a.set j r) (by simp) (by omega)
  rw [apL_set1 r hj] at h2
  omega
/-- the reference's recursion -/
def lsR : List Int → List Int → Int
  | [], _ => 0
  | r :: rs, a => if r ∈ a then lsR rs a else mn (fun k => dst (nth a k) r + lsR rs (sortL (a.set k r))) (a.length - 1)
theorem lsR_eq : ∀ (rs : List Int) {a : List Int}, 0 < a.length → lsR rs a = vU rs a
  | [], _, _ => rfl
  | r :: rs, a, h0 => by
    unfold lsR
    split
    · next h => rw [lsR_eq rs h0, vU_has h]
    · have e : (fun k => dst (nth a k) r + lsR rs (sortL (a.set k r))) = fun k => dst (nth a k) r + vU rs (a.set k r) := by
        funext k
        rw [lsR_eq rs (by rw [sortL_len]; simpa using h0), vU_perm rs (sortL_perm _) (by rw [sortL_len]; simpa using h0)]
      rw [e]
      rfl
/-- sorting a row brings it no farther from a sorted one -/
def insL (x : Int) : List Int → List Int
  | [] => [x]
  | y :: l => if x ≤ y then x :: y :: l else y :: insL x l
theorem insL_perm (x : Int) : ∀ l : List Int, (insL x l).Perm (x :: l)
  | [] => List.Perm.refl _
  | y :: l => by
    unfold insL
    split
    · exact List.Perm.refl _
    · exact ((insL_perm x l).cons y).trans (List.Perm.swap _ _ _)
theorem insL_asc {x : Int} : ∀ {l : List Int}, Asc l → Asc (insL x l)
  | [], _ => List.pairwise_singleton _ _
  | y :: l, h => by
    have h' := List.pairwise_cons.1 h
    unfold insL
    split
    · next hx =>
      refine List.pairwise_cons.2 ⟨fun z hz => ?_, h⟩
      rcases List.mem_cons.1 hz with e | hz
      · rw [e]; exact hx
      · have := h'.1 z hz; omega
    · refine List.pairwise_cons.2 ⟨fun z hz => ?_, insL_asc h'.2⟩
      rcases List.mem_cons.1 ((insL_perm x l).mem_iff.1 hz) with e | hz
      · rw [e]; omega
      · exact h'.1 z hz
theorem sortL_cons (x : Int) (l : List Int) : sortL (x :: l) = insL x (sortL l) :=
  asc_uniq (sortL_asc _) (insL_asc (sortL_asc _)) ((sortL_perm _).trans (((sortL_perm l).symm.cons x).trans (insL_perm x _).symm))
theorem apL_ins : ∀ {l : List Int} {a x : Int} {row : List Int}, Asc (a :: row) → row.length = l.length → apL (a :: row) (insL x l) ≤ dst a x + apL row l
  | [], a, x, row, _, h => Int.le_refl _
  | y :: l, a, x, [], _, h => by simp at h
  | y :: l, a, x, b :: row, hs, h => by
    have hs' := List.pairwise_cons.1 hs
    unfold insL
    split
    · exact Int.le_refl _
    · have ih := apL_ins (l := l) (a := b) (x := x) (row := row) hs'.2 (by simpa using h)
      have hab := hs'.1 b (.head _)
      show dst a y + apL (b :: row) (insL x l) ≤ dst a x + (dst b y + apL row l)
      have : dst a y + dst b x ≤ dst a x + dst b y := by unfold dst; omega
      omega
theorem apL_sort : ∀ {l row : List Int}, Asc row → row.length = l.length → apL row (sortL l) ≤ apL row l
  | [], row, _, _ => by rw [show sortL [] = [] by simp [sortL]]; exact Int.le_refl _
  | x :: l, [], _, h => by simp at h
  | x :: l, a :: row, hs, h => by
    have ih := apL_sort (l := l) (List.pairwise_cons.1 hs).2 (by simpa using h)
    have h1 := apL_ins (l := sortL l) (x := x) hs (by rw [sortL_len]; simpa using h)
    rw [sortL_cons]
    show _ ≤ dst a x + apL row l
    omega
/-- a row after double coverage: the place of the request among the servers, and what moves -/
def posL : List Int → Int → Nat
  | [], _ => 0
  | x :: xs, r => if x < r then posL xs r + 1 else 0
def covAt (a : List Int) (r : Int) (i : Nat) : List Int :=
  if r ∈ a then a else if i = 0 then a.set 0 r else if i = a.length then a.set (i - 1) r else
    (a.set (i - 1) (nth a (i - 1) + min (r - nth a (i - 1)) (nth a i - r))).set i (nth a i - min (r - nth a (i - 1)) (nth a i - r))
def covL (a : List Int) (r : Int) : List Int := covAt a r (posL a r)
theorem covL_len (a : List Int) (r : Int) : (covL a r).length = a.length := by
  unfold covL covAt
  split
  · rfl
  · split
    · simp
    · split <;> simp
/-- the sum of the differences of places -/
def spI (a : List Int) (i : Nat) : Nat → Int
  | 0 => 0
  | j + 1 => spI a i j + nth a i - nth a j
def spO (a : List Int) : Nat → Int
  | 0 => 0
  | i + 1 => spO a i + spI a i i
def spr (a : List Int) : Int := spO a a.length
/-- the cost of a run -/
def dcC : List Int → List Int → Int
  | [], _ => 0
  | r :: rs, a => apL a (covL a r) + dcC rs (covL a r)
theorem asc1 (x : Int) : Asc [x] := List.pairwise_singleton _ _
theorem asc2 {x y : Int} : Asc [x, y] ↔ x ≤ y := by simp [Asc]
theorem asc3 {x y z : Int} : Asc [x, y, z] ↔ (x ≤ y ∧ x ≤ z) ∧ y ≤ z := by simp [Asc]
theorem dc1 {a s r : Int} (hr : r ∈ [s]) : Asc (covL [a] r) ∧ apL [a] (covL [a] r) + 1 * apL (covL [a] r) [s] + spr (covL [a] r) ≤ 1 * apL [a] [s] + spr [a] := by
  rw [List.mem_singleton] at hr
  subst hr
  have e : covL [a] r = [r] := by
    unfold covL covAt
    by_cases h : r = a
    · rw [if_pos (by simp [h]), h]
    · rw [if_neg (by simpa using h)]
      by_cases h2 : a < r
      · simp [posL, h2]
      · simp [posL, h2]
  rw [e]
  refine ⟨asc1 _, ?_⟩
  simp [apL, spr, spO, spI, dst_self]
theorem cov2 {a b r : Int} (h : a ≤ b) : covL [a, b] r = if r = a ∨ r = b then [a, b] else if r < a then [r, b] else if b < r then [a, r] else [a + min (r - a) (b - r), b - min (r - a) (b - r)] := by
  unfold covL covAt
  by_cases h1 : r = a ∨ r = b
  · rw [if_pos h1, if_pos (by simpa using h1)]
  · rw [if_neg h1, if_neg (by simpa using h1)]
    by_cases h2 : r < a
    · rw [if_pos h2]
      have : posL [a, b] r = 0 := by simp [posL]; omega
      rw [this]; simp
    · rw [if_neg h2]
      have h3 : a < r := by omega
      by_cases h4 : b < r
      · rw [if_pos h4]
        have : posL [a, b] r = 2 := by simp [posL, h3, h4]
        rw [this]; simp
      · rw [if_neg h4]
        have : posL [a, b] r = 1 := by simp [posL, h3, h4]
        rw [this]; simp [nth]
theorem cov3 {a b c r : Int} (h : a ≤ b) (h' : b ≤ c) : covL [a, b, c] r = if r = a ∨ r = b ∨ r = c then [a, b, c] else if r < a then [r, b, c] else if c < r then [a, b, r] else if r < b then [a + min (r - a) (b - r), b - min (r - a) (b - r), c] else [a, b + min (r - b) (c - r), c - min (r - b) (c - r)] := by
  unfold covL covAt
  by_cases h1 : r = a ∨ r = b ∨ r = c
  · rw [if_pos h1, if_pos (by simpa using h1)]
  · rw [if_neg h1, if_neg (by simpa using h1)]
    by_cases h2 : r < a
    · rw [if_pos h2]
      have : posL [a, b, c] r = 0 := by simp [posL]; omega
      rw [this]; simp
    · rw [if_neg h2]
      have h3 : a < r := by omega
      by_cases h4 : c < r
      · rw [if_pos h4]
        have h5 : b < r := by omega
        have : posL [a, b, c] r = 3 := by simp [posL, h3, h4, h5]
        rw [this]; simp
      · rw [if_neg h4]
        by_cases h5 : r < b
        · rw [if_pos h5]
          have h6 : ¬ b < r := by omega
          have : posL [a, b, c] r = 1 := by simp [posL, h3, h6]
          rw [this]; simp [nth]
        · rw [if_neg h5]
          have h6 : b < r := by omega
          have : posL [a, b, c] r = 2 := by simp [posL, h3, h6, h4]
          rw [this]; simp [nth]
theorem dc2 {a b s t r : Int} (h : a ≤ b) (h' : s ≤ t) (hr : r ∈ [s, t]) : Asc (covL [a, b] r) ∧ apL [a, b] (covL [a, b] r) + 2 * apL (covL [a, b] r) [s, t] + spr (covL [a, b] r) ≤ 2 * apL [a, b] [s, t] + spr [a, b] := by
  simp only [List.mem_cons, List.not_mem_nil, or_false] at hr
  rw [cov2 h]
  split
  · refine ⟨asc2.2 h, ?_⟩
    rw [apL_self]; omega
  · split
    · refine ⟨asc2.2 (by omega), ?_⟩
      simp only [apL, spr, spO, spI, nth, List.length_cons, List.length_nil, List.getD_cons_zero, List.getD_cons_succ, dst]
      omega
    · split
      · refine ⟨asc2.2 (by omega), ?_⟩
        simp only [apL, spr, spO, spI, nth, List.length_cons, List.length_nil, List.getD_cons_zero, List.getD_cons_succ, dst]
        omega
      · obtain ⟨m, hm⟩ : ∃ m, m = min (r - a) (b - r) := ⟨_, rfl⟩
        rw [← hm]
        refine ⟨asc2.2 (by omega), ?_⟩
        simp only [apL, spr, spO, spI, nth, List.length_cons, List.length_nil, List.getD_cons_zero, List.getD_cons_succ, dst]
        rcases hr with hr | hr <;> omega
theorem dc3 {a b c s t u r : Int} (h : a ≤ b) (h2 : b ≤ c) (h' : s ≤ t) (h2' : t ≤ u) (hr : r ∈ [s, t, u]) : Asc (covL [a, b, c] r) ∧ apL [a, b, c] (covL [a, b, c] r) + 3 * apL (covL [a, b, c] r) [s, t, u] + spr (covL [a, b, c] r) ≤ 3 * apL [a, b, c] [s, t, u] + spr [a, b, c] := by
  simp only [List.mem_cons, List.not_mem_nil, or_false] at hr
  rw [cov3 h h2]
  split
  · refine ⟨asc3.2 (by omega), ?_⟩
    rw [apL_self]; omega
  · split
    · refine ⟨asc3.2 (by omega), ?_⟩
      simp only [apL, spr, spO, spI, nth, List.length_cons, List.length_nil, List.getD_cons_zero, List.getD_cons_succ, dst_self]
      have : dst a s = a - s ∧ dst r s = r - s ∧ dst a r = a - r := by unfold dst; omega
      omega
    · split
      · refine ⟨asc3.2 (by omega), ?_⟩
        simp only [apL, spr, spO, spI, nth, List.length_cons, List.length_nil, List.getD_cons_zero, List.getD_cons_succ, dst_self]
        have : dst c u = u - c ∧ dst r u = u - r ∧ dst c r = r - c := by unfold dst; omega
        omega
      · split
        · obtain ⟨m, hm⟩ : ∃ m, m = min (r - a) (b - r) := ⟨_, rfl⟩
          rw [← hm]
          refine ⟨asc3.2 (by omega), ?_⟩
          simp only [apL, spr, spO, spI, nth, List.length_cons, List.length_nil, List.getD_cons_zero, List.getD_cons_succ, dst_self]
          have e1 : dst a (a + m) = m ∧ dst b (b - m) = m := by unfold dst; omega
          have e2 : dst (a + m) s + dst (b - m) t ≤ dst a s + dst b t := by unfold dst; rcases hr with hr | hr | hr <;> omega
          omega
        · obtain ⟨m, hm⟩ : ∃ m, m = min (r - b) (c - r) := ⟨_, rfl⟩
          rw [← hm]
          refine ⟨asc3.2 (by omega), ?_⟩
          simp only [apL, spr, spO, spI, nth, List.length_cons, List.length_nil, List.getD_cons_zero, List.getD_cons_succ, dst_self]
          have e1 : dst b (b + m) = m ∧ dst c (c - m) = m := by unfold dst; omega
          have e2 : dst (b + m) t + dst (c - m) u ≤ dst b t + dst c u := by unfold dst; rcases hr with hr | hr | hr <;> omega
          omega
theorem dc_step {a o : List Int} {r : Int} (ha : Asc a) (ho : Asc o) (hl : a.length = o.length) (h0 : 0 < a.length) (h3 : a.length ≤ 3) (hr : r ∈ o) :
    Asc (covL a r) ∧ apL a (covL a r) + (a.length : Int) * apL (covL a r) o + spr (covL a r) ≤ (a.length : Int) * apL a o + spr a := by
  match a, o, ha, ho, hl, h0, h3, hr with
  | [a], [s], _, _, _, _, _, hr => exact dc1 hr
  | [a, b], [s, t], ha, ho, _, _, _, hr => exact dc2 (asc2.1 ha) (asc2.1 ho) hr
  | [a, b, c], [s, t, u], ha, ho, _, _, _, hr => exact dc3 (asc3.1 ha).1.1 (asc3.1 ha).2 (asc3.1 ho).1.1 (asc3.1 ho).2 hr
theorem spr_nn {a : List Int} (ha : Asc a) (h0 : 0 < a.length) (h3 : a.length ≤ 3) : 0 ≤ spr a := by
  match a, ha, h0, h3 with
  | [a], _, _, _ => simp [spr, spO, spI]
  | [a, b], ha, _, _ => have := asc2.1 ha; simp [spr, spO, spI, nth]; omega
  | [a, b, c], ha, _, _ => have := asc3.1 ha; simp [spr, spO, spI, nth]; omega
theorem dc_pot : ∀ (rs : List Int) {a o : List Int}, Asc a → Asc o → a.length = o.length → 0 < a.length → a.length ≤ 3 → dcC rs a ≤ (a.length : Int) * vU rs o + (a.length : Int) * apL a o + spr a
  | [], a, o, ha, _, _, h0, h3 => by
    have h1 := spr_nn ha h0 h3
    have h2 := Int.mul_nonneg (show (0 : Int) ≤ (a.length : Int) by omega) (apL_nn a o)
    show (0 : Int) ≤ (a.length : Int) * 0 + _ + _
    omega
  | r :: rs, a, o, ha, ho, hl, h0, h3 => by
    obtain ⟨k, hk, e⟩ := vU_some (r := r) (rs := rs) (a := o) (by omega)
    have hp : vU rs (sortL (o.set k r)) = vU rs (o.set k r) := vU_perm rs (sortL_perm _) (by rw [sortL_len]; simp; omega)
    have hm : r ∈ sortL (o.set k r) := (sortL_perm _).mem_iff.2 (List.mem_set hk _)
    have hlen : a.length = (sortL (o.set k r)).length := by rw [sortL_len]; simpa using hl
    obtain ⟨s1, s2⟩ := dc_step ha (sortL_asc (o.set k r)) hlen h0 h3 hm
    have ih := dc_pot rs (a := covL a r) (o := sortL (o.set k r)) s1 (sortL_asc _) (by rw [covL_len]; exact hlen) (by rw [covL_len]; exact h0) (by rw [covL_len]; exact h3)
    rw [covL_len, hp] at ih
    have h5 := apL_sort (l := o.set k r) ha (by simpa using hl)
    have h6 := apL_tri (a := a) (b := o) (c := o.set k r) hl (by simp)
    rw [apL_set1 r hk] at h6
    have h7 : (a.length : Int) * apL a (sortL (o.set k r)) ≤ (a.length : Int) * (apL a o + dst (nth o k) r) := Int.mul_le_mul_of_nonneg_left (by omega) (by omega)
    rw [Int.mul_add] at h7
    show apL a (covL a r) + dcC rs (covL a r) ≤ _
    rw [e, Int.mul_add]
    omega
theorem cov_mem {a : List Int} {r : Int} (ha : Asc a) (h0 : 0 < a.length) (h3 : a.length ≤ 3) : r ∈ covL a r := by
  match a, ha, h0, h3 with
  | [a], _, _, _ =>
    unfold covL covAt
    by_cases h : r = a
    · rw [if_pos (by simp [h])]; simp [h]
    · rw [if_neg (by simpa using h)]
      by_cases h2 : a < r
      · simp [posL, h2]
      · simp [posL, h2]
  | [a, b], ha, _, _ =>
    rw [cov2 (asc2.1 ha)]
    split
    · next h => simpa using h
    · split
      · simp
      · split
        · simp
        · simp only [List.mem_cons, List.not_mem_nil, or_false]; omega
  | [a, b, c], ha, _, _ =>
    rw [cov3 (asc3.1 ha).1.1 (asc3.1 ha).2]
    split
    · next h => simpa using h
    · split
      · simp
      · split
        · simp
        · split
          · simp only [List.mem_cons, List.not_mem_nil, or_false]; omega
          · simp only [List.mem_cons, List.not_mem_nil, or_false]; omega
theorem cov_asc {a : List Int} {r : Int} (ha : Asc a) (h0 : 0 < a.length) (h3 : a.length ≤ 3) : Asc (covL a r) := by
  have hm : r ∈ sortL (a.set 0 r) := (sortL_perm _).mem_iff.2 (List.mem_set h0 _)
  exact (dc_step (o := sortL (a.set 0 r)) ha (sortL_asc _) (by rw [sortL_len]; simp) h0 h3 hm).1
theorem dc_low : ∀ (rs : List Int) {a : List Int}, Asc a → 0 < a.length → a.length ≤ 3 → vU rs a ≤ dcC rs a
  | [], _, _, _, _ => Int.le_refl _
  | r :: rs, a, ha, h0, h3 => by
    have ih := dc_low rs (a := covL a r) (cov_asc ha h0 h3) (by rw [covL_len]; exact h0) (by rw [covL_len]; exact h3)
    have h1 := vU_lip (r :: rs) (a := a) (b := covL a r) (covL_len a r).symm h0
    rw [vU_has (cov_mem ha h0 h3)] at h1
    show _ ≤ apL a (covL a r) + dcC rs (covL a r)
    omega
/-- the law of double coverage -/
theorem dc_law {rs a : List Int} (ha : Asc a) (h0 : 0 < a.length) (h3 : a.length ≤ 3) : vU rs a ≤ dcC rs a ∧ dcC rs a ≤ (a.length : Int) * vU rs a + spr a := by
  refine ⟨dc_low rs ha h0 h3, ?_⟩
  have h := dc_pot rs (o := a) ha ha rfl h0 h3
  rw [apL_self, Int.mul_zero] at h
  omega
end Go.Proofs.Ytohjbabjkjcddaa
