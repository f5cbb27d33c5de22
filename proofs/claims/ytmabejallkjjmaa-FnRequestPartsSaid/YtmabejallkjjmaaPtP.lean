/- Joining, weaving, projecting and renaming sequences, and their windows, in plain words. -/
import Derived.Test.YtmabejallkjjmaaCvK
import Derived.Test.YtmabejallkjjmaaDif
import Derived.Test.YtmabejallkjjmaaGrD
import Derived.Test.YtmabejallkjjmaaUse
namespace Go.Proofs.Ytmabejallkjjmaa
open Go.RowKit

theorem take_more (X : List Int) (t : Nat) : X.take (t + 1) = X.take t ++ (if t < X.length then [nth X t] else []) := by
  rw [List.take_add_one]
  congr 1
  by_cases h : t < X.length
  · rw [if_pos h, List.getElem?_eq_getElem h]; simp [nth, h]
  · rw [if_neg h, List.getElem?_eq_none (by omega)]; rfl
/-- two sequences in turns, as far as place t -/
def wvTo (X Y : List Int) : Nat → List Int
  | 0 => []
  | t + 1 => wvTo X Y t ++ (if t < X.length then [nth X t] else []) ++ (if t < Y.length then [nth Y t] else [])
theorem wvTo_count (X Y : List Int) (p : Int) : ∀ t, (wvTo X Y t).count p = (X.take t).count p + (Y.take t).count p
  | 0 => by simp [wvTo]
  | t + 1 => by
    rw [wvTo, List.count_append, List.count_append, wvTo_count X Y p t, take_more X t, take_more Y t, List.count_append, List.count_append]
    omega
theorem wvTo_len (X Y : List Int) : ∀ t, (wvTo X Y t).length = min t X.length + min t Y.length
  | 0 => by simp [wvTo]
  | t + 1 => by
    rw [wvTo, List.length_append, List.length_append, wvTo_len X Y t]
    split <;> split <;> simp <;> omega
theorem wvTo_mem {X Y : List Int} {t : Nat} {y : Int} (h : y ∈ wvTo X Y t) : y ∈ X ∨ y ∈ Y := by
  have h1 := List.count_pos_iff.2 h
  rw [wvTo_count] at h1
  by_cases h2 : 0 < (X.take t).count y
  · exact .inl (List.mem_of_mem_take (List.count_pos_iff.1 h2))
  · exact .inr (List.mem_of_mem_take (List.count_pos_iff.1 (show 0 < (Y.take t).count y by omega)))
def wvL (X Y : List Int) : List Int := wvTo X Y (max X.length Y.length)
theorem wvL_len (X Y : List Int) : (wvL X Y).length = X.length + Y.length := by rw [wvL, wvTo_len]; omega
theorem wvL_count (X Y : List Int) (p : Int) : (wvL X Y).count p = (X ++ Y).count p := by
  rw [wvL, wvTo_count, List.count_append, List.take_of_length_le (by omega), List.take_of_length_le (by omega)]
theorem cn_weave (n : Nat) (X Y : List Int) : cnL n (wvL X Y) (wvL X Y).length = cnL n (X ++ Y) (X ++ Y).length := by
  unfold cnL
  refine List.map_congr_left fun p _ => ?_
  rw [List.take_length, List.take_length, wvL_count]
theorem seqOk_iff {n : Int} {X : List Int} : seqOk n X = true ↔ (1 ≤ n ∧ n ≤ 8) ∧ X.length ≤ 60 ∧ ∀ y ∈ X, 0 ≤ y ∧ y < n := by
  unfold seqOk
  rw [Bool.and_eq_true, Bool.and_eq_true, inB_true, decide_eq_true_eq, belowB, decide_eq_true_eq]
  refine and_congr Iff.rfl (and_congr Iff.rfl (forall_congr' fun y => imp_congr Iff.rfl ?_))
  rw [inB_true]
  omega
def jnB (n : Int) (X Y : List Int) : Bool := seqOk n X && (seqOk n Y && decide (X.length + Y.length ≤ 60))
theorem jnB_iff {n : Int} {X Y : List Int} : jnB n X Y = true ↔ seqOk n X = true ∧ seqOk n Y = true ∧ X.length + Y.length ≤ 60 := by
  unfold jnB
  rw [Bool.and_eq_true, Bool.and_eq_true, decide_eq_true_eq]
theorem join_ok {n : Int} {X Y : List Int} (h : jnB n X Y = true) : seqOk n (X ++ Y) = true ∧ seqOk n (wvL X Y) = true := by
  obtain ⟨h1, h2, h3⟩ := jnB_iff.1 h
  obtain ⟨a1, a2, a3⟩ := seqOk_iff.1 h1
  obtain ⟨b1, b2, b3⟩ := seqOk_iff.1 h2
  refine ⟨seqOk_iff.2 ⟨a1, by rw [List.length_append]; omega, fun y hy => ?_⟩, seqOk_iff.2 ⟨a1, by rw [wvL_len]; omega, fun y hy => ?_⟩⟩
  · rcases List.mem_append.1 hy with h | h
    · exact a3 y h
    · exact b3 y h
  · rcases wvTo_mem hy with h | h
    · exact a3 y h
    · exact b3 y h
def jnR (n : Int) (X Y : List Int) : List Int := if jnB n X Y then X ++ Y else []
def wvR (n : Int) (X Y : List Int) : List Int := if jnB n X Y then wvL X Y else []

/-- the places with some items -/
def pjL (X T : List Int) : List Int := X.filter fun x => hasB T x
def pjB (n : Int) (X T : List Int) : Bool := seqOk n X && (belowB n T && rsB T)
def pjR (n : Int) (X T : List Int) : List Int := if pjB n X T then pjL X T else []
theorem sasc_low {T : List Int} (h : SAsc T) (h0 : ∀ y ∈ T, 0 ≤ y) : ∀ i, i < T.length → (i : Int) ≤ nth T i
  | 0, hi => h0 _ (nth_mem hi)
  | i + 1, hi => by
    have h1 := sasc_low h h0 i (by omega)
    have h2 := List.pairwise_iff_getElem.1 h i (i + 1) (by omega) hi (by omega)
    have e1 : nth T i = T[i] := by simp [nth, show i < T.length by omega]
    have e2 : nth T (i + 1) = T[i + 1] := by simp [nth, hi]
    omega
theorem sasc_high {T : List Int} {m : Int} (h : SAsc T) (h1 : ∀ y ∈ T, y < m) : ∀ d i, i + d + 1 = T.length → nth T i + d < m
  | 0, i, hi => by have := h1 _ (nth_mem (show i < T.length by omega)); omega
  | d + 1, i, hi => by
    have h3 := sasc_high h h1 d (i + 1) (by omega)
    have h2 := List.pairwise_iff_getElem.1 h i (i + 1) (by omega) (by omega) (by omega)
    have e1 : nth T i = T[i] := by simp [nth, show i < T.length by omega]
    have e2 : nth T (i + 1) = T[i + 1] := by simp [nth, show i + 1 < T.length by omega]
    omega
theorem pj_all {n : Int} {X T : List Int} (h : pjB n X T = true) (hl : (T.length : Int) = n) : pjL X T = X := by
  unfold pjB at h
  rw [Bool.and_eq_true, Bool.and_eq_true] at h
  obtain ⟨h1, h2, h3⟩ := h
  obtain ⟨a1, a2, a3⟩ := seqOk_iff.1 h1
  have hs := rsB_iff.1 h3
  have hb : ∀ y ∈ T, 0 ≤ y ∧ y < n := fun y hy => by
    have := inB_true.1 (of_decide_eq_true h2 y hy)
    omega
  unfold pjL
  rw [List.filter_eq_self]
  intro y hy
  have hy2 := a3 y hy
  refine hasB_true.2 (mem_iff_nth.2 ⟨y.toNat, by omega, ?_⟩)
  have h4 := sasc_low hs (fun y hy => (hb y hy).1) y.toNat (by omega)
  have h5 := sasc_high hs (fun y hy => (hb y hy).2) (T.length - 1 - y.toNat) y.toNat (by omega)
  omega

/-- the names of items turned -/
def rmL (X T : List Int) : List Int := X.map fun x => nth T x.toNat
def orB (n : Int) (T : List Int) : Bool := decide ((T.length : Int) = n) && (belowB n T && decide (((difL T).length : Int) = n))
theorem orB_in {n : Int} {T : List Int} (h : orB n T = true) : (T.length : Int) = n ∧ ∀ y ∈ T, 0 ≤ y ∧ y < n := by
  unfold orB at h
  rw [Bool.and_eq_true, Bool.and_eq_true, decide_eq_true_eq] at h
  exact ⟨h.1, fun y hy => by
    have := inB_true.1 (of_decide_eq_true h.2.1 y hy)
    omega⟩
def rmB (n : Int) (X T : List Int) : Bool := seqOk n X && orB n T
def rmR (n : Int) (X T : List Int) : List Int := if rmB n X T then rmL X T else []
theorem rmL_len (X T : List Int) : (rmL X T).length = X.length := by simp [rmL]
theorem rmL_at {X T : List Int} {i : Nat} (h : i < X.length) : nth (rmL X T) i = nth T (nth X i).toNat := by simp [rmL, nth, h]
theorem dif_nodup : ∀ (n : Nat) (X : List Int), X.length = n → (difL X).length = X.length → X.Nodup
  | 0, X, h, _ => by rw [List.eq_nil_of_length_eq_zero h]; exact List.nodup_nil
  | n + 1, X, h, hd => by
    have hX : X = X.take n ++ [nth X n] := by
      have := take_more X n
      rw [if_pos (by omega)] at this
      have h2 : X.take (n + 1) = X := List.take_of_length_le (by omega)
      rw [h2] at this
      exact this
    have hl : (X.take n).length = n := by rw [List.length_take]; omega
    generalize X.take n = Z at hX hl
    generalize nth X n = z at hX
    subst hX
    rw [difL_snoc, List.length_append, List.length_singleton] at hd
    have h1 := putL_len (x := z) (l := difL Z)
    have h2 := difL_len Z
    have hz : z ∉ Z := fun hz => by
      obtain ⟨k, hk, e⟩ := mem_iff_nth.1 (mem_difL.2 hz)
      have hs := difL_sasc Z
      have h3 : putL (difL Z) z = difL Z := putL_hit hk (fun j hj => by
        have h4 := List.pairwise_iff_getElem.1 hs j k (by omega) hk hj
        have e1 : nth (difL Z) j = (difL Z)[j] := by simp [nth, show j < (difL Z).length by omega]
        have e2 : nth (difL Z) k = (difL Z)[k] := by simp [nth, hk]
        omega) e
      rw [h3] at hd
      omega
    have ih := dif_nodup n Z hl (by omega)
    rw [List.nodup_append]
    exact ⟨ih, by simp, fun a ha b hb e => hz (by rw [List.mem_singleton.1 hb] at e; exact e ▸ ha)⟩
theorem nodup_inj {T : List Int} (h : T.Nodup) {i j : Nat} (hi : i < T.length) (hj : j < T.length) (e : nth T i = nth T j) : i = j := by
  have e1 : nth T i = T[i] := by simp [nth, hi]
  have e2 : nth T j = T[j] := by simp [nth, hj]
  rw [e1, e2] at e
  have hp := List.pairwise_iff_getElem.1 (List.nodup_iff_pairwise_ne.1 h)
  rcases Nat.lt_trichotomy i j with hij | hij | hij
  · exact absurd e (hp i j hi hj hij)
  · exact hij
  · exact absurd e.symm (hp j i hj hi hij)
theorem lu_rename {n : Int} {X T : List Int} (h : rmB n X T = true) : luUs (rmL X T) (rmL X T).length = luUs X X.length := by
  unfold rmB orB at h
  rw [Bool.and_eq_true, Bool.and_eq_true, Bool.and_eq_true, decide_eq_true_eq, decide_eq_true_eq] at h
  obtain ⟨h1, h2, h3, h4⟩ := h
  obtain ⟨a1, a2, a3⟩ := seqOk_iff.1 h1
  have hnd := dif_nodup _ T rfl (by omega)
  rw [rmL_len]
  unfold luUs
  refine List.map_congr_left fun t ht => ?_
  have ht := List.mem_range.1 ht
  unfold luU
  have key : ∀ s, s ≤ X.length → luF (rmL X T) (nth (rmL X T) t) s = luF X (nth X t) s := by
    intro s
    induction s with
    | zero => intro _; rfl
    | succ s ih =>
      intro hs
      rw [luF, luF, ih (by omega), rmL_at (by omega), rmL_at ht]
      have hx := a3 _ (nth_mem (show s < X.length by omega))
      have hy := a3 _ (nth_mem ht)
      by_cases e : nth X s = nth X t
      · rw [if_pos e, e, if_pos rfl]
      · rw [if_neg e, if_neg]
        intro e2
        have := nodup_inj hnd (by omega) (by omega) e2
        omega
  exact key t (by omega)
theorem rm_ok {n : Int} {X T : List Int} (h : rmB n X T = true) : seqOk n (rmL X T) = true := by
  unfold rmB orB at h
  rw [Bool.and_eq_true, Bool.and_eq_true, Bool.and_eq_true, decide_eq_true_eq, decide_eq_true_eq] at h
  obtain ⟨h1, h2, h3, h4⟩ := h
  obtain ⟨a1, a2, a3⟩ := seqOk_iff.1 h1
  refine seqOk_iff.2 ⟨a1, by rw [rmL_len]; exact a2, fun y hy => ?_⟩
  obtain ⟨x, hx, rfl⟩ := List.mem_map.1 hy
  have h5 := a3 x hx
  have h6 := of_decide_eq_true h3 _ (nth_mem (xs := T) (k := x.toNat) (by omega))
  have := inB_true.1 h6
  omega

/-- the places of a window that ends at place i -/
def wnW (X : List Int) (w : Int) (i : Nat) : List Int := (X.take (i + 1)).drop (max 0 ((i : Int) - w + 1)).toNat
def wnAt (X : List Int) (w : Int) (i : Nat) : Int := ((difL (wnW X w i)).length : Int)
def wnTo (X : List Int) (w : Int) (t : Nat) : List Int := (List.range t).map (wnAt X w)
theorem wnTo_len (X : List Int) (w : Int) (t : Nat) : (wnTo X w t).length = t := by simp [wnTo]
theorem wnTo_succ (X : List Int) (w : Int) (t : Nat) : wnTo X w (t + 1) = wnTo X w t ++ [wnAt X w t] := by simp [wnTo, List.range_succ]
theorem wnTo_at {X : List Int} {w : Int} {t i : Nat} (h : i < t) : nth (wnTo X w t) i = wnAt X w i := by simp [wnTo, nth, h]
def wnB (n : Int) (X : List Int) (w : Int) : Bool := seqOk n X && inB w 1 60
def wnR (n : Int) (X : List Int) (w : Int) : List Int := if wnB n X w then wnTo X w X.length else []
theorem wnAt_in {X : List Int} {w : Int} {i : Nat} (hw : 1 ≤ w) (hi : i < X.length) : 1 ≤ wnAt X w i ∧ wnAt X w i ≤ w ∧ wnAt X w i ≤ (i : Int) + 1 := by
  have hl : (wnW X w i).length = (i + 1) - (max 0 ((i : Int) - w + 1)).toNat := by
    rw [wnW, List.length_drop, List.length_take]
    omega
  have h1 := difL_len (wnW X w i)
  have h2 : nth (wnW X w i) 0 ∈ wnW X w i := nth_mem (by omega)
  have h3 := List.length_pos_of_mem (mem_difL.2 h2)
  unfold wnAt
  omega
end Go.Proofs.Ytmabejallkjjmaa
