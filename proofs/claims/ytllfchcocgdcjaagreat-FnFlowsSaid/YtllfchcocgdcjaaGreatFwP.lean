/- Chains of the least cost that begin with given numbers: the questions of the program and of the reference are one; in plain words. -/
import Derived.Test.YtllfchcocgdcjaaGreatLpP
import Derived.Test.YtllfchcocgdcjaaGreatKuP
namespace Go.Proofs.YtllfchcocgdcjaaGreat
open Go.RowKit

/-- some best matching begins with the numbers L -/
def Bst (k : Nat) (c : Nat → Nat → Int) (n m : Nat) (L : List Int) : Prop := ∃ g, Mtc (Al k) n m g ∧ (∀ g', Mtc (Al k) n m g' → mcost c g n ≤ mcost c g' n) ∧ ∀ j, j < L.length → nth L j = (g j : Int)
theorem fw_app1 {L : List Int} {x : Int} {j : Nat} : nth (L ++ [x]) j = if j < L.length then nth L j else if j = L.length then x else 0 := by
  unfold nth
  rw [List.getD_eq_getElem?_getD, List.getD_eq_getElem?_getD]
  by_cases h : j < L.length
  · rw [if_pos h, List.getElem?_append_left h]
  · rw [if_neg h]
    by_cases e : j = L.length
    · subst e
      simp
    · rw [if_neg e, List.getElem?_eq_none (by simp; omega)]
      rfl
/-- the grid of the columns and the rows: what is begun, and what the prices and rents just pay for -/
def grdB (k : Nat) (c : Nat → Nat → Int) (p r : Nat → Int) (L : List Int) (l i : Nat) : Bool :=
  if i < L.length then nth L i == (l : Int) else !(L.contains (l : Int)) && (alB k i l && (p i - r l == c i l))
theorem fw_mem {L : List Int} {x : Int} (h : x ∈ L) : ∃ j, j < L.length ∧ nth L j = x := by
  obtain ⟨j, hj, e⟩ := List.mem_iff_getElem.1 h
  exact ⟨j, hj, by simp [nth, hj, e]⟩
section
variable {k n m : Nat} {c : Nat → Nat → Int} {p r : Nat → Int} {f : Nat → Nat} {L : List Int}
theorem Bst.tight (hf : Mtc (Al k) n m f) (hc : Cert (Al k) c n m f p r) (h : Bst k c n m L) (hl : L.length ≤ n) : ∀ j, j < L.length → ∃ l : Nat, nth L j = (l : Int) ∧ l < m ∧ alB k j l = true ∧ p j - r l = c j l := by
  obtain ⟨g, g1, g2, g3⟩ := h
  have hm := hc.move hf g1 (g2 f hf)
  exact fun j hj => ⟨g j, g3 j hj, (g1.1 j (by omega)).1, (g1.1 j (by omega)).2, hm.2.1 j (by omega)⟩
/-- a beginning of a best matching goes on -/
theorem Bst.next (h : Bst k c n m L) (hl : L.length < n) : ∃ l : Nat, l < m ∧ Bst k c n m (L ++ [(l : Int)]) := by
  obtain ⟨g, g1, g2, g3⟩ := h
  refine ⟨g L.length, (g1.1 _ hl).1, g, g1, g2, fun j hj => ?_⟩
  rw [fw_app1]
  split
  · exact g3 j ‹_›
  · rw [if_pos (by rw [List.length_append] at hj; simp at hj; omega), show j = L.length by rw [List.length_append] at hj; simp at hj; omega]
theorem Bst.in1 {l : Nat} (h : Bst k c n m (L ++ [(l : Int)])) (hl : L.length < n) : alB k L.length l = true ∧ l < m ∧ (l : Int) ∉ L := by
  obtain ⟨g, g1, g2, g3⟩ := h
  have hx := g3 L.length (by rw [List.length_append]; simp)
  rw [fw_app1, if_neg (by omega), if_pos rfl] at hx
  have hg : g L.length = l := by omega
  have h1 := g1.1 _ hl
  rw [hg] at h1
  refine ⟨h1.2, h1.1, fun hm => ?_⟩
  obtain ⟨j, hj, e⟩ := fw_mem hm
  have h2 := g3 j (by rw [List.length_append]; omega)
  rw [fw_app1, if_pos hj, e] at h2
  have := g1.2 j L.length (by omega) hl (by omega)
  omega
/-- the reference's question: whether a best matching begins so -/
theorem bst_grid (hf : Mtc (Al k) n m f) (hc : Cert (Al k) c n m f p r) (hL : Bst k c n m L) (hl : L.length < n) (l : Nat) (hal : alB k L.length l = true) (ht : p L.length - r l = c L.length l) :
    Bst k c n m (L ++ [(l : Int)]) ↔ Cov (fun i x => grdB k c p r (L ++ [(l : Int)]) x i) n m (fun _ => true) ∧ Cov (grdB k c p r (L ++ [(l : Int)])) m n (fun x => decide (0 < r x)) := by
  have hlen : (L ++ [(l : Int)]).length = L.length + 1 := by simp
  have hT := hL.tight hf hc (by omega)
  -- what the grid says
  have gIn : ∀ x i, i < L.length + 1 → (grdB k c p r (L ++ [(l : Int)]) x i = true ↔ nth (L ++ [(l : Int)]) i = (x : Int)) := by
    intro x i hi
    unfold grdB
    rw [if_pos (by omega), beq_iff_eq]
  have gOut : ∀ x i, ¬ i < L.length + 1 → (grdB k c p r (L ++ [(l : Int)]) x i = true ↔ (x : Int) ∉ (L ++ [(l : Int)]) ∧ alB k i x = true ∧ p i - r x = c i x) := by
    intro x i hi
    unfold grdB
    rw [if_neg (by omega), Bool.and_eq_true, Bool.and_eq_true, beq_iff_eq, Bool.not_eq_true', ← Bool.not_eq_true, List.contains_iff_mem]
  have gTight : ∀ x i, i < n → x < m → grdB k c p r (L ++ [(l : Int)]) x i = true → alB k i x = true ∧ p i - r x = c i x := by
    intro x i hi hx hg
    by_cases h1 : i < L.length + 1
    · have h2 := (gIn x i h1).1 hg
      rw [fw_app1] at h2
      by_cases h3 : i < L.length
      · rw [if_pos h3] at h2
        obtain ⟨y, y1, _, y3, y4⟩ := hT i h3
        rw [show x = y by omega]
        exact ⟨y3, y4⟩
      · rw [if_neg h3, if_pos (by omega)] at h2
        rw [show x = l by omega, show i = L.length by omega]
        exact ⟨hal, ht⟩
    · exact ((gOut x i h1).1 hg).2
  constructor
  · rintro ⟨g, g1, g2, g3⟩
    have hm := hc.move hf g1 (g2 f hf)
    have hgr : ∀ i, i < n → grdB k c p r (L ++ [(l : Int)]) (g i) i = true := by
      intro i hi
      by_cases h1 : i < L.length + 1
      · exact (gIn _ _ h1).2 (g3 i (by omega))
      · refine (gOut _ _ h1).2 ⟨fun hmem => ?_, (g1.1 i hi).2, hm.2.1 i hi⟩
        obtain ⟨j, hj, e⟩ := fw_mem hmem
        rw [g3 j hj] at e
        have := g1.2 j i (by omega) hi (by omega)
        omega
    refine ⟨⟨g, fun x hx _ => ⟨(g1.1 x hx).1, hgr x hx⟩, fun x y hx hy _ _ e => g1.2 x y hx hy e⟩, ?_⟩
    classical
    have had : ∀ x, x < m → 0 < r x → ∃ i, i < n ∧ g i = x := by
      intro x hx h0
      refine Classical.byContradiction fun hno => ?_
      have := hm.2.2 x hx (fun i hi e => hno ⟨i, hi, e⟩)
      omega
    refine ⟨fun x => if hx : ∃ i, i < n ∧ g i = x then Classical.choose hx else 0, fun x hx h0 => ?_, fun x y hx hy h0 h1 e => ?_⟩
    · have hq := had x hx (of_decide_eq_true h0)
      show (if hx : ∃ i, i < n ∧ g i = x then Classical.choose hx else 0) < n ∧ grdB k c p r (L ++ [(l : Int)]) x (if hx : ∃ i, i < n ∧ g i = x then Classical.choose hx else 0) = true
      rw [dif_pos hq]
      have hs := Classical.choose_spec hq
      refine ⟨hs.1, ?_⟩
      have := hgr _ hs.1
      rw [hs.2] at this
      exact this
    · have hq := had x hx (of_decide_eq_true h0)
      have hp := had y hy (of_decide_eq_true h1)
      have e' : (if hx : ∃ i, i < n ∧ g i = x then Classical.choose hx else 0) = (if hx : ∃ i, i < n ∧ g i = y then Classical.choose hx else 0) := e
      rw [dif_pos hq, dif_pos hp] at e'
      rw [← (Classical.choose_spec hq).2, e', (Classical.choose_spec hp).2]
  · rintro ⟨⟨g, g1, g2⟩, ⟨q, q1, q2⟩⟩
    obtain ⟨h, h1, h2, h3⟩ := both_cover (G := fun i x => grdB k c p r (L ++ [(l : Int)]) x i = true) (n := n) (m := m) (f := g) (B := fun x => 0 < r x) (g := q)
      (fun i hi => g1 i hi rfl) (fun i j hi hj e => g2 i j hi hj rfl rfl e) (fun x hx hb => q1 x hx (decide_eq_true hb)) (fun x y hx hy bx bY e => q2 x y hx hy (decide_eq_true bx) (decide_eq_true bY) e)
    have hM : Mtc (Al k) n m h := ⟨fun i hi => ⟨(h1 i hi).1, (gTight _ i hi (h1 i hi).1 (h1 i hi).2).1⟩, h2⟩
    have hC : Cert (Al k) c n m h p r := ⟨hc.1, fun i hi => (gTight _ i hi (h1 i hi).1 (h1 i hi).2).2, fun x hx hno => by
      have h0 := hc.1.1 x hx
      by_cases hb : 0 < r x
      · obtain ⟨i, hi, e⟩ := h3 x hx hb
        exact absurd e (hno i hi)
      · omega⟩
    exact ⟨h, hM, fun g' hg' => hC.opt hM hg', fun j hj => (gIn _ j (by omega)).1 (h1 j (by omega)).2⟩
/-- the costs where the first rows have one column alone -/
def onlC (c : Nat → Nat → Int) (L : List Int) (i l : Nat) : Int := if i < L.length then (if nth L i = (l : Int) then c i l else 1073741824) else c i l
/-- the program's question: whether a best matching begins so -/
theorem bst_prog {f2 : Nat → Nat} {p2 q2 : Nat → Int} {l : Nat} (hb : ∀ i x, i < n → x < m → 0 ≤ c i x ∧ c i x ≤ 1073741824) (h99 : ∀ i x, i < n → x < m → alB k i x = true → c i x ≤ 99) (hno : ∀ i x, i < n → x < m → alB k i x = false → c i x = 1073741824) (hn : n ≤ 1000)
    (hf : Mtc (Al k) n m f) (hbest : ∀ g', Mtc (Al k) n m g' → mcost c f n ≤ mcost c g' n) (hL : L.length < n)
    (h2 : Mtc (fun _ _ => True) n m f2) (hc2 : Cert (fun _ _ => True) (onlC c (L ++ [(l : Int)])) n m f2 p2 q2) :
    mcost (onlC c (L ++ [(l : Int)])) f2 n = mcost c f n ↔ Bst k c n m (L ++ [(l : Int)]) := by
  have hlen : (L ++ [(l : Int)]).length = L.length + 1 := by simp
  have hge : ∀ i x, i < n → x < m → c i x ≤ onlC c (L ++ [(l : Int)]) i x := by
    intro i x hi hx
    unfold onlC
    split
    · split
      · exact Int.le_refl _
      · exact (hb i x hi hx).2
    · exact Int.le_refl _
  have hsmall : ∀ g, Mtc (Al k) n m g → mcost c g n ≤ 99 * n := by
    intro g hg
    have h := sg_le (f := fun i => c i (g i)) (g := fun _ => 99) (n := n) fun i hi => h99 i _ hi (hg.1 i hi).1 (hg.1 i hi).2
    rw [sg_const] at h
    exact h
  constructor
  · intro he
    have h1 : ∀ i, i < n → onlC c (L ++ [(l : Int)]) i (f2 i) ≤ 99 * n := by
      intro i hi
      have h := sg_one (f := fun i => onlC c (L ++ [(l : Int)]) i (f2 i)) (n := n) (fun i hi => Int.le_trans (hb i _ hi (h2.1 i hi).1).1 (hge i _ hi (h2.1 i hi).1)) i hi
      have h' := hsmall f hf
      have e : sgTo (fun i => onlC c (L ++ [(l : Int)]) i (f2 i)) n = mcost (onlC c (L ++ [(l : Int)])) f2 n := rfl
      rw [e, he] at h
      exact Int.le_trans h h'
    have h3 : ∀ i, i < n → alB k i (f2 i) = true ∧ onlC c (L ++ [(l : Int)]) i (f2 i) = c i (f2 i) ∧ (i < L.length + 1 → nth (L ++ [(l : Int)]) i = (f2 i : Int)) := by
      intro i hi
      have h4 := h1 i hi
      have h5 : onlC c (L ++ [(l : Int)]) i (f2 i) = c i (f2 i) ∧ (i < L.length + 1 → nth (L ++ [(l : Int)]) i = (f2 i : Int)) := by
        unfold onlC at h4 ⊢
        rw [hlen] at h4 ⊢
        split
        · rename_i hlt
          rw [if_pos hlt] at h4
          split
          · rename_i e
            exact ⟨rfl, fun _ => e⟩
          · rename_i e
            rw [if_neg e] at h4
            omega
        · rename_i hlt
          exact ⟨rfl, fun h => absurd h hlt⟩
      refine ⟨?_, h5⟩
      cases ha : alB k i (f2 i) with
      | true => rfl
      | false =>
        have := hno i _ hi (h2.1 i hi).1 ha
        rw [h5.1] at h4
        omega
    have hm : Mtc (Al k) n m f2 := ⟨fun i hi => ⟨(h2.1 i hi).1, (h3 i hi).1⟩, h2.2⟩
    have hcost : mcost c f2 n = mcost (onlC c (L ++ [(l : Int)])) f2 n := sgTo_congr fun i hi => (h3 i hi).2.1.symm
    exact ⟨f2, hm, fun g' hg' => by rw [hcost, he]; exact hbest g' hg', fun j hj => (h3 j (by omega)).2.2 (by omega)⟩
  · rintro ⟨g, g1, g2, g3⟩
    have e1 : mcost (onlC c (L ++ [(l : Int)])) g n = mcost c g n := by
      refine sgTo_congr fun i hi => ?_
      show onlC c (L ++ [(l : Int)]) i (g i) = c i (g i)
      unfold onlC
      split
      · rename_i hlt
        rw [if_pos (g3 i hlt)]
      · rfl
    have e2 := hc2.opt h2 (g := g) ⟨fun i hi => ⟨(g1.1 i hi).1, trivial⟩, g1.2⟩
    have e3 := g2 f hf
    have e4 := hbest g g1
    -- no matching of the table is better than the best one
    have e5 : mcost c f n ≤ mcost (onlC c (L ++ [(l : Int)])) f2 n := by
      have h1 : ∀ i, i < n → onlC c (L ++ [(l : Int)]) i (f2 i) ≤ 99 * n := by
        intro i hi
        have h := sg_one (f := fun i => onlC c (L ++ [(l : Int)]) i (f2 i)) (n := n) (fun i hi => Int.le_trans (hb i _ hi (h2.1 i hi).1).1 (hge i _ hi (h2.1 i hi).1)) i hi
        have e : sgTo (fun i => onlC c (L ++ [(l : Int)]) i (f2 i)) n = mcost (onlC c (L ++ [(l : Int)])) f2 n := rfl
        rw [e] at h
        have := hsmall g g1
        omega
      have hm : Mtc (Al k) n m f2 := ⟨fun i hi => ⟨(h2.1 i hi).1, by
        show alB k i (f2 i) = true
        cases ha : alB k i (f2 i) with
        | true => rfl
        | false =>
          have h4 := h1 i hi
          have h5 := hge i _ hi (h2.1 i hi).1
          have := hno i _ hi (h2.1 i hi).1 ha
          omega⟩, h2.2⟩
      have h6 := hbest f2 hm
      have h7 := sg_le (f := fun i => c i (f2 i)) (g := fun i => onlC c (L ++ [(l : Int)]) i (f2 i)) (n := n) fun i hi => hge i _ hi (h2.1 i hi).1
      exact Int.le_trans h6 h7
    omega
/-- the least list that a best matching begins with, i numbers of it -/
structure Chs (k : Nat) (c : Nat → Nat → Int) (n m : Nat) (L : List Int) (i : Nat) : Prop where
  len : L.length = i
  bst : Bst k c n m L
  nn : ∀ j, j < i → 0 ≤ nth L j ∧ nth L j < m
  least : ∀ j, j < i → ∀ l : Nat, (l : Int) < nth L j → ¬ Bst k c n m (L.take j ++ [(l : Int)])
theorem Chs.begin (hf : Mtc (Al k) n m f) (hbest : ∀ g', Mtc (Al k) n m g' → mcost c f n ≤ mcost c g' n) : Chs k c n m [] 0 :=
  ⟨rfl, ⟨f, hf, hbest, fun j hj => by simp at hj⟩, fun j hj => by omega, fun j hj => by omega⟩
theorem Chs.step {i l : Nat} (h : Chs k c n m L i) (hl : l < m) (hb : Bst k c n m (L ++ [(l : Int)])) (hn : ∀ l', l' < l → ¬ Bst k c n m (L ++ [(l' : Int)])) : Chs k c n m (L ++ [(l : Int)]) (i + 1) := by
  have hlen := h.len
  refine ⟨by simp [hlen], hb, fun j hj => ?_, fun j hj x hx => ?_⟩
  · rw [fw_app1]
    split
    · exact h.nn j (by omega)
    · rw [if_pos (by omega)]; omega
  · rw [fw_app1] at hx
    by_cases e : j < L.length
    · rw [if_pos e] at hx
      rw [List.take_append_of_le_length (by omega)]
      exact h.least j (by omega) x hx
    · rw [if_neg e, if_pos (by omega)] at hx
      rw [show j = L.length by omega, List.take_left]
      exact hn x (by omega)
theorem Chs.uniq {L' : List Int} {i : Nat} (h : Chs k c n m L i) (h' : Chs k c n m L' i) : L = L' := by
  have step : ∀ j, j ≤ i → L.take j = L'.take j := by
    intro j
    induction j with
    | zero => intro _; simp
    | succ j ih =>
      intro hj
      have e := ih (by omega)
      have l1 : j < L.length := by rw [h.len]; omega
      have l2 : j < L'.length := by rw [h'.len]; omega
      have t1 : L.take (j + 1) = L.take j ++ [nth L j] := by rw [List.take_succ_eq_append_getElem l1]; simp [nth, l1]
      have t2 : L'.take (j + 1) = L'.take j ++ [nth L' j] := by rw [List.take_succ_eq_append_getElem l2]; simp [nth, l2]
      have sub : ∀ {A : List Int} {t : Nat}, Bst k c n m A → Bst k c n m (A.take t) := by
        rintro A t ⟨g, g1, g2, g3⟩
        refine ⟨g, g1, g2, fun q hq => ?_⟩
        rw [List.length_take] at hq
        rw [← g3 q (by omega)]
        unfold nth
        rw [List.getD_eq_getElem?_getD, List.getElem?_take, if_pos (by omega), List.getD_eq_getElem?_getD]
      have b1 : Bst k c n m (L.take j ++ [nth L j]) := by rw [← t1]; exact sub h.bst
      have b2 : Bst k c n m (L'.take j ++ [nth L' j]) := by rw [← t2]; exact sub h'.bst
      have n1 := h.nn j (by omega)
      have n2 := h'.nn j (by omega)
      have hle : ¬ nth L j < nth L' j := fun q => h'.least j (by omega) (nth L j).toNat (by omega) (by
        rw [← e, show ((nth L j).toNat : Int) = nth L j by omega]; exact b1)
      have hge : ¬ nth L' j < nth L j := fun q => h.least j (by omega) (nth L' j).toNat (by omega) (by
        rw [e, show ((nth L' j).toNat : Int) = nth L' j by omega]; exact b2)
      rw [t1, t2, e, show nth L j = nth L' j by omega]
  have e := step i (Nat.le_refl _)
  rw [List.take_of_length_le (by rw [h.len]; exact Nat.le_refl _), List.take_of_length_le (by rw [h'.len]; exact Nat.le_refl _)] at e
  exact e
end
end Go.Proofs.YtllfchcocgdcjaaGreat
