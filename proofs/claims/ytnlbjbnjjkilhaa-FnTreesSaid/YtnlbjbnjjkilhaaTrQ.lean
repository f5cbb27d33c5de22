/- Tables of a tree's distances, edges in ascending order, what is joined with a point; in plain words. -/
import Derived.Test.YtnlbjbnjjkilhaaKrP
import Derived.Test.YtnlbjbnjjkilhaaPackA
namespace Go.Proofs.Ytnlbjbnjjkilhaa
open Go.RowKit

/-- the table of distances -/
def trT (pa : Nat → Nat) (le : Nat → Int) (n : Nat) : List (List Int) := (List.range n).map fun x => (List.range n).map fun y => trD pa le n x y
theorem trT_len {pa : Nat → Nat} {le : Nat → Int} {n : Nat} : (trT pa le n).length = n := by simp [trT]
theorem trT_row {pa : Nat → Nat} {le : Nat → Int} {n x : Nat} (hx : x < n) : row (trT pa le n) x = (List.range n).map fun y => trD pa le n x y := by
  simp [row, trT, hx]
theorem trT_at {pa : Nat → Nat} {le : Nat → Int} {n x y : Nat} (hx : x < n) (hy : y < n) : nth (row (trT pa le n) x) y = trD pa le n x y := by
  rw [trT_row hx]
  simp [nth, hy]
theorem tab_ext {M N : List (List Int)} {n : Nat} (h1 : M.length = n) (h2 : N.length = n) (hr1 : ∀ x, x < n → (row M x).length = n) (hr2 : ∀ x, x < n → (row N x).length = n) (h : ∀ x y, x < n → y < n → nth (row M x) y = nth (row N x) y) : M = N := by
  refine List.ext_getElem (by omega) fun x hx hx' => ?_
  have e1 : M[x] = row M x := by simp [row, hx]
  have e2 : N[x] = row N x := by simp [row, hx']
  rw [e1, e2]
  refine List.ext_getElem (by rw [hr1 x (by omega), hr2 x (by omega)]) fun y hy hy' => ?_
  have := h x y (by omega) (by rw [hr1 x (by omega)] at hy; omega)
  simpa [nth, hy, hy'] using this
theorem trT_uniq {pa : Nat → Nat} {le : Nat → Int} {n : Nat} {M : List (List Int)} (h1 : M.length = n) (hr : ∀ x, x < n → (row M x).length = n) (h : ∀ x y, x < n → y < n → nth (row M x) y = trD pa le n x y) : M = trT pa le n :=
  tab_ext h1 trT_len hr (fun x hx => by rw [trT_row hx]; simp) fun x y hx hy => by rw [h x y hx hy, trT_at hx hy]
/-- no distance of a tree is above the sum of its lengths -/
theorem trD_le_far {pa : Nat → Nat} {le : Nat → Int} : ∀ {n : Nat}, TrOk pa le n → (∀ k, k < n → le k ≤ 99) → ∀ x y, x < n → y < n → trD pa le n x y ≤ 99 * n
  | 0, _, _, x, _, hx, _ => by omega
  | k + 1, h, hl, x, y, hx, hy => by
    by_cases hk : k = 0
    · rw [show x = y by omega, trD_diag]; omega
    · have h1 := trD_le (pa := pa) (le := le) (k := k) (x := x) (y := y) (by have := h k (by omega) (by omega); omega)
      by_cases e : x = k ∧ y = k
      · rw [e.1, e.2, trD_diag]; omega
      · have h2 := trD_le_far (h.less (Nat.le_succ k)) (fun k hk => hl k (by omega)) (up pa k x) (up pa k y) (up_lt h (by omega) (by omega) hx) (up_lt h (by omega) (by omega) hy)
        rw [trD_up e]
        have h3 := hl k (by omega)
        have : ln le k x + ln le k y ≤ 99 := by
          unfold ln
          by_cases e1 : x = k
          · rw [if_pos e1, if_neg (fun e2 => e ⟨e1, e2⟩)]; omega
          · rw [if_neg e1]
            split <;> omega
        omega
/-- all pairs of points, in lexicographic order -/
def prsF (n x : Nat) : List (Nat × Nat) := (List.range (n - (x + 1))).map fun d => (x, x + 1 + d)
def prs (n : Nat) : List (Nat × Nat) := (List.range n).flatMap (prsF n)
theorem mem_prs {n u v : Nat} : (u, v) ∈ prs n ↔ u < v ∧ v < n := by
  unfold prs prsF
  simp only [List.mem_flatMap, List.mem_range, List.mem_map, Prod.mk.injEq]
  constructor
  · rintro ⟨x, hx, d, hd, rfl, rfl⟩; omega
  · rintro ⟨h1, h2⟩; exact ⟨u, by omega, v - (u + 1), by omega, rfl, by omega⟩
/-- the pairs by their distances -/
def edL (D : Nat → Nat → Int) (n : Nat) : List (Nat × Nat) := (List.range 99).flatMap fun (d : Nat) => (prs n).filter fun e => decide (D e.1 e.2 = (d : Int) + 1)
theorem edL_filter (D : Nat → Nat → Int) (G : List (Nat × Nat)) (hG : G.Pairwise fun a b => D a.1 a.2 ≤ D b.1 b.2) : ∀ m : Nat, (∀ a, a ∈ G → 1 ≤ D a.1 a.2) →
    (List.range m).flatMap (fun (d : Nat) => G.filter fun e => decide (D e.1 e.2 = (d : Int) + 1)) = G.filter fun e => decide (D e.1 e.2 ≤ (m : Int))
  | 0, h => by
    rw [List.range_zero, List.flatMap_nil]
    symm
    rw [List.filter_eq_nil_iff]
    intro a ha
    have := h a ha
    simp; omega
  | m + 1, h => by
    rw [List.range_succ, List.flatMap_append, edL_filter D G hG m h, List.flatMap_singleton]
    clear h
    induction G with
    | nil => rfl
    | cons g G ih =>
      have hg := List.pairwise_cons.1 hG
      simp only [List.filter_cons]
      by_cases c1 : D g.1 g.2 ≤ (m : Int)
      · rw [if_pos (by simpa using c1), if_neg (by simp; omega), if_pos (by simp; omega), List.cons_append, ih hg.2]
      · by_cases c2 : D g.1 g.2 = (m : Int) + 1
        · rw [if_neg (by simpa using c1), if_pos (by simpa using c2), if_pos (by simp; omega)]
          have e0 : (G.filter fun e => decide (D e.1 e.2 ≤ (m : Int))) = [] := by
            rw [List.filter_eq_nil_iff]
            intro a ha
            have := hg.1 a ha
            simp; omega
          have := ih hg.2
          rw [e0, List.nil_append] at this
          rw [e0, List.nil_append, this]
        · rw [if_neg (by simpa using c1), if_neg (by simpa using c2), if_neg (by simp; omega), ih hg.2]
/-- a stable sorting of the pairs -/
theorem edL_uniq {D : Nat → Nat → Int} {n : Nat} {G : List (Nat × Nat)} (hG : G.Pairwise fun a b => D a.1 a.2 ≤ D b.1 b.2) (hs : ∀ d : Int, (G.filter fun e => decide (D e.1 e.2 = d)) = (prs n).filter fun e => decide (D e.1 e.2 = d))
    (hd : ∀ a, a ∈ G → 1 ≤ D a.1 a.2 ∧ D a.1 a.2 ≤ 99) : G = edL D n := by
  have h := edL_filter D G hG 99 fun a ha => (hd a ha).1
  have e1 : (G.filter fun e => decide (D e.1 e.2 ≤ ((99 : Nat) : Int))) = G := List.filter_eq_self.2 fun a ha => by
    have := (hd a ha).2
    simp; omega
  rw [e1] at h
  rw [← h]
  unfold edL
  congr 1
  funext d
  exact hs ((d : Int) + 1)
theorem edL_srt {D : Nat → Nat → Int} {n : Nat} (hd : ∀ u v, u < v → v < n → 1 ≤ D u v ∧ D u v ≤ 99) : Srt (edL D n) n D := by
  refine ⟨fun u v => ?_, fun A B hAB a b ha hb => ?_⟩
  · unfold edL
    simp only [List.mem_flatMap, List.mem_range, List.mem_filter, decide_eq_true_eq]
    constructor
    · rintro ⟨d, _, h, _⟩; exact mem_prs.1 h
    · intro h
      have := hd u v h.1 h.2
      exact ⟨(D u v - 1).toNat, by omega, mem_prs.2 h, by omega⟩
  · have hp : ∀ m : Nat, ((List.range m).flatMap fun (d : Nat) => (prs n).filter fun e => decide (D e.1 e.2 = (d : Int) + 1)).Pairwise (fun a b => D a.1 a.2 ≤ D b.1 b.2) ∧ ∀ a, a ∈ ((List.range m).flatMap fun (d : Nat) => (prs n).filter fun e => decide (D e.1 e.2 = (d : Int) + 1)) → D a.1 a.2 ≤ (m : Int) := by
      intro m
      induction m with
      | zero => simp
      | succ m ih =>
        rw [List.range_succ, List.flatMap_append, List.flatMap_singleton]
        have hm : ∀ a, a ∈ ((prs n).filter fun e => decide (D e.1 e.2 = (m : Int) + 1)) → D a.1 a.2 = (m : Int) + 1 := fun a ha => by simpa using (List.mem_filter.1 ha).2
        refine ⟨List.pairwise_append.2 ⟨ih.1, ?_, fun a ha b hb => ?_⟩, fun a ha => ?_⟩
        · refine List.pairwise_of_forall_mem_list fun a ha b hb => ?_
          rw [hm a ha, hm b hb]; exact Int.le_refl _
        · have h1 := ih.2 a ha
          have h2 := hm b hb
          omega
        · rcases List.mem_append.1 ha with ha | ha
          · have := ih.2 a ha; omega
          · have := hm a ha; omega
    have := (hp 99).1
    rw [show ((List.range 99).flatMap fun (d : Nat) => (prs n).filter fun e => decide (D e.1 e.2 = (d : Int) + 1)) = A ++ B from hAB] at this
    exact (List.pairwise_append.1 this).2.2 a ha b hb
/-- one step of the search for what edges join -/
def adP (O : List Int) (p a b : Int) : List Int := if a = p ∧ b ∉ O then O ++ [b] else O
theorem adP_pre (O : List Int) (p a b : Int) : ∃ l, adP O p a b = O ++ l := by
  unfold adP
  split
  · exact ⟨_, rfl⟩
  · exact ⟨[], by simp⟩
theorem nth_pre {O l : List Int} {i : Nat} (hi : i < O.length) : nth (O ++ l) i = nth O i := by simp [nth, List.getElem?_append_left hi]
/-- what has been found: the points ahead of i are done, of the point i the edges ahead of k; F without the edge at the place wo are the edges E -/
structure BSt (E F : List (Nat × Nat)) (wo : Int) (n x : Nat) (O : List Int) (i k : Nat) : Prop where
  reach : ∀ v, v ∈ O → ∃ u : Nat, v = (u : Int) ∧ u < n ∧ Cn E x u
  self : (x : Int) ∈ O
  nodup : O.Nodup
  done : ∀ j, j < i → ∀ e, e ∈ E → (nth O j = (e.1 : Int) → (e.2 : Int) ∈ O) ∧ (nth O j = (e.2 : Int) → (e.1 : Int) ∈ O)
  part : ∀ q e, q < k → F[q]? = some e → (q : Int) ≠ wo → (nth O i = (e.1 : Int) → (e.2 : Int) ∈ O) ∧ (nth O i = (e.2 : Int) → (e.1 : Int) ∈ O)
section
variable {E F : List (Nat × Nat)} {wo : Int} {n x i k : Nat} {O : List Int} {e : Nat × Nat}
theorem BSt.begin (hx : x < n) : BSt E F wo n x [(x : Int)] 0 0 :=
  ⟨fun v hv => ⟨x, by simpa using hv, hx, .refl x⟩, by simp, by simp, fun j hj => by omega, fun q e hq => by omega⟩
theorem nodup_lt : ∀ {n : Nat} {O : List Int}, O.Nodup → (∀ v, v ∈ O → 0 ≤ v ∧ v < (n : Int)) → O.length ≤ n
  | 0, O, _, h => by
    cases O with
    | nil => simp
    | cons v O => have := h v (by simp); omega
  | n + 1, O, hn, h => by
    have h1 := nodup_lt (n := n) (O := O.filter fun v => decide (v ≠ (n : Int))) (hn.filter _) fun v hv => by
      obtain ⟨a, b⟩ := List.mem_filter.1 hv
      have := h v a
      have b : v ≠ (n : Int) := by simpa using b
      omega
    have h2 : O.length ≤ (O.filter fun v => decide (v ≠ (n : Int))).length + 1 := by
      have : ∀ l : List Int, l.Nodup → l.length ≤ (l.filter fun v => decide (v ≠ (n : Int))).length + 1 := by
        intro l
        induction l with
        | nil => simp
        | cons a l ih =>
          intro hl
          have hl := List.nodup_cons.1 hl
          rw [List.filter_cons]
          by_cases c : a = (n : Int)
          · rw [if_neg (by simpa using c), List.filter_eq_self.2 (fun b hb => by
              have : b ≠ a := fun q => hl.1 (q ▸ hb)
              rw [c] at this
              simpa using this)]
            simp
          · rw [if_pos (by simpa using c)]
            have := ih hl.2
            simp only [List.length_cons]; omega
      exact this O hn
    omega
theorem BSt.len (h : BSt E F wo n x O i k) : O.length ≤ n := nodup_lt h.nodup fun v hv => by
  obtain ⟨u, rfl, hu, _⟩ := h.reach v hv
  omega
theorem BSt.add (h : BSt E F wo n x O i k) (hi : i < O.length) {a b : Nat} (hb : b < n) (hE : (a, b) ∈ E ∨ (b, a) ∈ E) : BSt E F wo n x (adP O (nth O i) a b) i k := by
  unfold adP
  by_cases c : (a : Int) = nth O i ∧ (b : Int) ∉ O
  · rw [if_pos c]
    have hcn : Cn E x b := by
      have hm : nth O i ∈ O := by
        have : nth O i = O[i] := by simp [nth, hi]
        rw [this]; exact List.getElem_mem hi
      obtain ⟨u, hu, _, hc⟩ := h.reach _ hm
      rw [show u = a by omega] at hc
      exact .step hc hE
    refine ⟨fun v hv => ?_, List.mem_append_left _ h.self, ?_, fun j hj e he => ?_, fun q e hq he hw => ?_⟩
    · rcases List.mem_append.1 hv with hv | hv
      · exact h.reach v hv
      · exact ⟨b, by simpa using hv, hb, hcn⟩
    · rw [List.nodup_append]
      refine ⟨h.nodup, by simp, fun v hv w hw => ?_⟩
      rw [List.mem_singleton.1 hw]
      exact fun q => c.2 (q ▸ hv)
    · rw [nth_pre (by omega)]
      have := h.done j hj e he
      exact ⟨fun q => List.mem_append_left _ (this.1 q), fun q => List.mem_append_left _ (this.2 q)⟩
    · rw [nth_pre hi]
      have := h.part q e hq he hw
      exact ⟨fun q => List.mem_append_left _ (this.1 q), fun q => List.mem_append_left _ (this.2 q)⟩
  · rw [if_neg c]; exact h
theorem adP_mem {p a b : Int} (h : a = p) : b ∈ adP O p a b := by
  unfold adP
  by_cases c : b ∈ O
  · rw [if_neg (fun q => q.2 c)]; exact c
  · rw [if_pos ⟨h, c⟩]; simp
theorem adP_sub {p a b v : Int} (h : v ∈ O) : v ∈ adP O p a b := by
  obtain ⟨l, e⟩ := adP_pre O p a b
  rw [e]; exact List.mem_append_left _ h
theorem adP_nth {p a b : Int} (hi : i < O.length) : nth (adP O p a b) i = nth O i := by
  obtain ⟨l, e⟩ := adP_pre O p a b
  rw [e, nth_pre hi]
theorem adP_len {p a b : Int} : O.length ≤ (adP O p a b).length := by
  obtain ⟨l, e⟩ := adP_pre O p a b
  rw [e, List.length_append]; omega
/-- an edge has been looked at -/
theorem BSt.step (h : BSt E F wo n x O i k) (hi : i < O.length) (he : F[k]? = some e) (hw : (k : Int) ≠ wo) (hE : e ∈ E) (hb : e.1 < n ∧ e.2 < n) :
    BSt E F wo n x (adP (adP O (nth O i) e.1 e.2) (nth O i) e.2 e.1) i (k + 1) := by
  have h1 := h.add hi (a := e.1) (b := e.2) hb.2 (.inl hE)
  have hi1 : i < (adP O (nth O i) e.1 e.2).length := Nat.lt_of_lt_of_le hi adP_len
  have h2 := h1.add hi1 (a := e.2) (b := e.1) hb.1 (.inr hE)
  rw [adP_nth hi] at h2
  refine ⟨h2.reach, h2.self, h2.nodup, h2.done, fun q e' hq he' hwq => ?_⟩
  by_cases c : q = k
  · subst c
    rw [he] at he'
    cases he'
    rw [adP_nth hi1, adP_nth hi]
    exact ⟨fun q => adP_sub (adP_mem q.symm), fun q => adP_mem q.symm⟩
  · exact h2.part q e' (by omega) he' hwq
/-- the edge that is left out -/
theorem BSt.skip (h : BSt E F wo n x O i k) (hw : (k : Int) = wo) : BSt E F wo n x O i (k + 1) :=
  ⟨h.reach, h.self, h.nodup, h.done, fun q e hq he hwq => h.part q e (by omega) he hwq⟩
/-- a point is done -/
theorem BSt.next (h : BSt E F wo n x O i k) (hk : F.length ≤ k) (hE : ∀ e, e ∈ E → ∃ q : Nat, F[q]? = some e ∧ (q : Int) ≠ wo) : BSt E F wo n x O (i + 1) 0 := by
  refine ⟨h.reach, h.self, h.nodup, fun j hj e he => ?_, fun q e hq => by omega⟩
  by_cases c : j = i
  · subst c
    obtain ⟨q, hq, hw⟩ := hE e he
    have hql : q < F.length := by
      rcases Nat.lt_or_ge q F.length with h | h
      · exact h
      · rw [List.getElem?_eq_none h] at hq; cases hq
    exact h.part q e (by omega) hq hw
  · exact h.done j (by omega) e he
theorem BSt.fin (h : BSt E F wo n x O i k) (hi : O.length ≤ i) (v : Int) : v ∈ O ↔ ∃ u : Nat, v = (u : Int) ∧ Cn E x u := by
  constructor
  · intro hv
    obtain ⟨u, h1, _, h2⟩ := h.reach v hv
    exact ⟨u, h1, h2⟩
  · rintro ⟨u, rfl, hc⟩
    induction hc with
    | refl => exact h.self
    | step _ e ih =>
      obtain ⟨j, hj, hjv⟩ := List.mem_iff_getElem.1 ih
      have hn : nth O j = O[j] := by simp [nth, hj]
      rcases e with e | e
      · exact (h.done j (by omega) _ e).1 (by rw [hn, hjv])
      · exact (h.done j (by omega) _ e).2 (by rw [hn, hjv])
end
/-- what edges join with a point, in ascending order -/
def SdL (E : List (Nat × Nat)) (x : Nat) (l : List Int) : Prop := SAsc l ∧ ∀ v, v ∈ l ↔ ∃ u : Nat, v = (u : Int) ∧ Cn E x u
theorem SdL.uniq {E : List (Nat × Nat)} {x : Nat} {l l' : List Int} (h : SdL E x l) (h' : SdL E x l') : l = l' := sasc_uniq h.1 h'.1 fun v => (h.2 v).trans (h'.2 v).symm
theorem SdL.dif {E : List (Nat × Nat)} {x : Nat} {O : List Int} (h : ∀ v, v ∈ O ↔ ∃ u : Nat, v = (u : Int) ∧ Cn E x u) : SdL E x (difL O) := ⟨difL_sasc O, fun v => mem_difL.trans (h v)⟩
/-- the points below x that have been found, in ascending order -/
def fdL (O : List Int) (x : Nat) : List Int := ((List.range x).filter fun (u : Nat) => decide ((u : Int) ∈ O)).map fun (u : Nat) => (u : Int)
theorem fdL_succ (O : List Int) (x : Nat) : fdL O (x + 1) = fdL O x ++ (if (x : Int) ∈ O then [(x : Int)] else []) := by
  unfold fdL
  rw [List.range_succ, List.filter_append, List.map_append]
  congr 1
  by_cases c : (x : Int) ∈ O
  · rw [if_pos c, List.filter_cons_of_pos (by simpa using c)]; rfl
  · rw [if_neg c, List.filter_cons_of_neg (by simpa using c)]; rfl
theorem SdL.found {E : List (Nat × Nat)} {x n : Nat} {O : List Int} (h : ∀ v, v ∈ O ↔ ∃ u : Nat, v = (u : Int) ∧ Cn E x u) (hn : ∀ u : Nat, (u : Int) ∈ O → u < n) : SdL E x (fdL O n) := by
  refine ⟨?_, fun v => ?_⟩
  · unfold SAsc fdL
    rw [List.pairwise_map]
    refine List.Pairwise.filter _ ?_
    exact (List.pairwise_lt_range (n := n)).imp fun hab => by omega
  · unfold fdL
    rw [List.mem_map]
    constructor
    · rintro ⟨u, hu, rfl⟩
      have := (List.mem_filter.1 hu).2
      exact (h _).1 (by simpa using this)
    · intro hv0
      obtain ⟨u, rfl, hv⟩ := hv0
      have := (h (u : Int)).2 ⟨u, rfl, hv⟩
      exact ⟨u, List.mem_filter.2 ⟨List.mem_range.2 (hn u this), by simpa using this⟩, rfl⟩
theorem SdL.has {E : List (Nat × Nat)} {x y : Nat} {l : List Int} (h : SdL E x l) : (y : Int) ∈ l ↔ Cn E x y := by
  rw [h.2]
  constructor
  · rintro ⟨u, hu, hc⟩
    rw [show y = u by omega]; exact hc
  · intro hc; exact ⟨y, rfl, hc⟩
/-- edges as rows -/
def edR (E : List (Nat × Nat)) : List (List Int) := E.map fun e => [(e.1 : Int), (e.2 : Int)]
theorem edR_len (E : List (Nat × Nat)) : (edR E).length = E.length := by simp [edR]
theorem edR_app (E F : List (Nat × Nat)) : edR (E ++ F) = edR E ++ edR F := by simp [edR]
theorem edR_all (E : List (Nat × Nat)) : ∀ x ∈ edR E, x.length = 2 := by
  intro x hx
  obtain ⟨e, _, rfl⟩ := List.mem_map.1 hx
  rfl
theorem edR_at {E : List (Nat × Nat)} {j : Nat} {e : Nat × Nat} (h : E[j]? = some e) : nth (row (edR E) j) 0 = (e.1 : Int) ∧ nth (row (edR E) j) 1 = (e.2 : Int) := by
  have hj : j < E.length := by
    rcases Nat.lt_or_ge j E.length with h1 | h1
    · exact h1
    · rw [List.getElem?_eq_none h1] at h; cases h
  have he : E[j] = e := by rw [List.getElem?_eq_getElem hj] at h; exact Option.some.inj h
  constructor <;> simp [row, nth, edR, hj, he]
/-- edges without the one at a place -/
theorem eraseIdx_mem {E : List (Nat × Nat)} {i : Nat} {e : Nat × Nat} (hi : i < E.length) : e ∈ E.take i ++ E.drop (i + 1) ↔ ∃ q : Nat, E[q]? = some e ∧ (q : Int) ≠ (i : Int) := by
  rw [List.mem_append]
  constructor
  · rintro (h | h)
    · obtain ⟨q, hq, he⟩ := List.mem_iff_getElem.1 h
      rw [List.length_take] at hq
      rw [List.getElem_take] at he
      exact ⟨q, by rw [List.getElem?_eq_getElem (by omega), he], by omega⟩
    · obtain ⟨q, hq, he⟩ := List.mem_iff_getElem.1 h
      rw [List.length_drop] at hq
      rw [List.getElem_drop] at he
      exact ⟨i + 1 + q, by rw [List.getElem?_eq_getElem (by omega), he], by omega⟩
  · rintro ⟨q, hq, hne⟩
    have hql : q < E.length := by
      rcases Nat.lt_or_ge q E.length with h | h
      · exact h
      · rw [List.getElem?_eq_none h] at hq; cases hq
    have he : E[q] = e := by rw [List.getElem?_eq_getElem hql] at hq; exact Option.some.inj hq
    rcases Nat.lt_or_ge q i with h | h
    · left
      rw [List.mem_iff_getElem]
      exact ⟨q, by rw [List.length_take]; omega, by rw [List.getElem_take, he]⟩
    · right
      rw [List.mem_iff_getElem]
      exact ⟨q - (i + 1), by rw [List.length_drop]; omega, by rw [List.getElem_drop]; simp only [show i + 1 + (q - (i + 1)) = q by omega, he]⟩
/-- the insertion of one element into the ones ahead of it, in turn -/
structure InS (D : Nat → Nat → Int) (E0 G : List (Nat × Nat)) (i j : Nat) : Prop where
  same : ∀ d : Int, (G.filter fun e => decide (D e.1 e.2 = d)) = E0.filter fun e => decide (D e.1 e.2 = d)
  mem : ∀ e, e ∈ G ↔ e ∈ E0
  len : G.length = E0.length
  asc : ∀ a b : Nat, a < b → b ≤ i → b ≠ j → ∀ u v, G[a]? = some u → G[b]? = some v → D u.1 u.2 ≤ D v.1 v.2
def swpL (G : List (Nat × Nat)) (j : Nat) : List (Nat × Nat) := (G.set j (G.getD (j - 1) (0, 0))).set (j - 1) (G.getD j (0, 0))
theorem swpL_eq {A B : List (Nat × Nat)} {u v : Nat × Nat} {j : Nat} (hj : j = A.length + 1) : swpL (A ++ u :: v :: B) j = A ++ v :: u :: B := by
  subst hj
  unfold swpL
  have e1 : (A ++ u :: v :: B).getD (A.length + 1 - 1) (0, 0) = u := by simp
  have e2 : (A ++ u :: v :: B).getD (A.length + 1) (0, 0) = v := by simp
  rw [e1, e2, List.set_append_right _ _ (by omega), show A.length + 1 - A.length = 1 by omega, List.set_append_right _ _ (by omega), show A.length + 1 - 1 - A.length = 0 by omega]
  rfl
theorem split2 {G : List (Nat × Nat)} {j : Nat} (h1 : 1 ≤ j) (h2 : j < G.length) : ∃ A u v B, G = A ++ u :: v :: B ∧ j = A.length + 1 := by
  refine ⟨G.take (j - 1), G[j - 1], G[j], G.drop (j + 1), ?_, by rw [List.length_take]; omega⟩
  rw [← List.drop_eq_getElem_cons h2]
  have := List.drop_eq_getElem_cons (l := G) (i := j - 1) (by omega)
  rw [show j - 1 + 1 = j by omega] at this
  rw [← this, List.take_append_drop]
section
variable {D : Nat → Nat → Int} {E0 G : List (Nat × Nat)} {i j : Nat}
theorem InS.begin (E0 : List (Nat × Nat)) : InS D E0 E0 0 0 := ⟨fun _ => rfl, fun _ => Iff.rfl, rfl, fun a b h1 h2 => by omega⟩
/-- the element at j has come to its place -/
theorem InS.place (h : InS D E0 G i j) (hji : j ≤ i) (hj : j = 0 ∨ ∀ u v, G[j - 1]? = some u → G[j]? = some v → D u.1 u.2 ≤ D v.1 v.2) : InS D E0 G (i + 1) (i + 1) := by
  refine ⟨h.same, h.mem, h.len, fun a b h1 h2 h3 u v hu hv => ?_⟩
  by_cases c : b = j
  · subst c
    rcases hj with hj | hj
    · omega
    · have hbl : b < G.length := by
        rcases Nat.lt_or_ge b G.length with q | q
        · exact q
        · rw [List.getElem?_eq_none q] at hv; cases hv
      have e := List.getElem?_eq_getElem (l := G) (i := b - 1) (by omega)
      have h4 := hj _ v e hv
      by_cases c2 : a = b - 1
      · subst c2
        rw [e] at hu
        cases hu
        exact h4
      · have := h.asc a (b - 1) (by omega) (by omega) (by omega) u _ hu e
        omega
  · exact h.asc a b h1 (by omega) c u v hu hv
theorem InS.swap (h : InS D E0 G i j) (h1 : 1 ≤ j) (hji : j ≤ i) (hj : j < G.length) (hlt : ∀ u v, G[j - 1]? = some u → G[j]? = some v → D v.1 v.2 < D u.1 u.2) : InS D E0 (swpL G j) i (j - 1) := by
  obtain ⟨A, u, v, B, rfl, rfl⟩ := split2 h1 hj
  have eu : (A ++ u :: v :: B)[A.length + 1 - 1]? = some u := by simp
  have ev : (A ++ u :: v :: B)[A.length + 1]? = some v := by simp
  have huv := hlt u v eu ev
  rw [swpL_eq rfl]
  have at1 : ∀ q : Nat, q ≠ A.length → q ≠ A.length + 1 → (A ++ v :: u :: B)[q]? = (A ++ u :: v :: B)[q]? := by
    intro q q1 q2
    rcases Nat.lt_or_ge q A.length with c | c
    · rw [List.getElem?_append_left c, List.getElem?_append_left c]
    · rw [List.getElem?_append_right c, List.getElem?_append_right c]
      obtain ⟨m, hm⟩ : ∃ m, q - A.length = m + 2 := ⟨q - A.length - 2, by omega⟩
      rw [hm]; rfl
  have at2 : (A ++ v :: u :: B)[A.length]? = some v := by simp
  have at3 : (A ++ v :: u :: B)[A.length + 1]? = some u := by simp
  refine ⟨fun d => ?_, fun e => ?_, ?_, fun a b hab hbi hbj s t hs ht => ?_⟩
  · rw [← h.same d]
    simp only [List.filter_append, List.filter_cons]
    by_cases c : D u.1 u.2 = d
    · have c1 : decide (D u.1 u.2 = d) = true := by simpa using c
      have c2 : decide (D v.1 v.2 = d) = false := by simp; omega
      simp only [c1, c2, if_true, Bool.false_eq_true, if_false]
    · have c1 : decide (D u.1 u.2 = d) = false := by simpa using c
      simp only [c1, Bool.false_eq_true, if_false]
  · rw [← h.mem e]
    simp only [List.mem_append, List.mem_cons]
    constructor
    · rintro (q | q | q | q)
      · exact .inl q
      · exact .inr (.inr (.inl q))
      · exact .inr (.inl q)
      · exact .inr (.inr (.inr q))
    · rintro (q | q | q | q)
      · exact .inl q
      · exact .inr (.inr (.inl q))
      · exact .inr (.inl q)
      · exact .inr (.inr (.inr q))
  · rw [← h.len]; simp
  · have hbj : b ≠ A.length := by omega
    rw [show A.length + 1 - 1 = A.length by omega] at eu
    by_cases b1 : b = A.length + 1
    · subst b1
      rw [at3] at ht
      cases ht
      by_cases a1 : a = A.length
      · subst a1
        rw [at2] at hs
        cases hs
        omega
      · rw [at1 a a1 (by omega)] at hs
        exact h.asc a A.length (by omega) (by omega) (by omega) s u hs eu
    · rw [at1 b hbj b1] at ht
      by_cases a1 : a = A.length
      · subst a1
        rw [at2] at hs
        cases hs
        exact h.asc (A.length + 1) b (by omega) hbi b1 v t ev ht
      · by_cases a2 : a = A.length + 1
        · subst a2
          rw [at3] at hs
          cases hs
          exact h.asc A.length b (by omega) hbi b1 u t eu ht
        · rw [at1 a a1 a2] at hs
          exact h.asc a b hab hbi b1 s t hs ht
theorem InS.fin (h : InS D E0 G i j) (hi : G.length ≤ i) (hj : G.length ≤ j) : G.Pairwise fun a b => D a.1 a.2 ≤ D b.1 b.2 := by
  rw [List.pairwise_iff_getElem]
  intro a b ha hb hab
  exact h.asc a b hab (by omega) (by omega) _ _ (List.getElem?_eq_getElem ha) (List.getElem?_eq_getElem hb)
end
end Go.Proofs.Ytnlbjbnjjkilhaa
