/- The page of a cache that is requested last. -/
import Derived.Test.YtmabejallkjjmaaCvT
namespace Go.Proofs.Ytmabejallkjjmaa
open Go.RowKit

/-- what the program's farthest finds in the pages that it has not looked at yet -/
def farG (Y : List Int) : List Int → Int → Int → Int
  | [], b, _ => b
  | p :: N, b, f => if ixOf Y p < 0 then p else if f < ixOf Y p then farG Y N p (ixOf Y p) else farG Y N b f
theorem ixOf_neg {Y : List Int} {y : Int} : ixOf Y y < 0 ↔ y ∉ Y := by
  constructor
  · intro h hm
    have := (ixOf_in hm).1
    omega
  · intro h
    rw [ixOf_none h]; omega
theorem idx_ne {Y : List Int} {r y : Int} (h : r ≠ y) : (r :: Y).idxOf y = Y.idxOf y + 1 := by
  rw [List.idxOf_cons]
  have : (r == y) = false := by simpa using h
  rw [this]
  rfl
theorem bef_ix {y o : Int} : ∀ {Y : List Int}, (o ∉ Y ∨ (y ∈ Y ∧ Y.idxOf y ≤ Y.idxOf o)) → bef Y y o
  | [], _ => trivial
  | r :: Y, h => by
    by_cases hy : r = y
    · exact .inl hy
    · have hne : r ≠ o := by
        rintro rfl
        rcases h with h | h
        · exact h (by simp)
        · have h2 := h.2
          rw [List.idxOf_cons_self, idx_ne hy] at h2
          omega
      refine .inr ⟨hne, bef_ix ?_⟩
      rcases h with h | h
      · exact .inl fun e => h (by simp [e])
      · refine .inr ⟨?_, ?_⟩
        · rcases List.mem_cons.1 h.1 with e | e
          · exact absurd e.symm hy
          · exact e
        · have h2 := h.2
          rw [idx_ne hy, idx_ne hne] at h2
          omega
theorem farG_ok (Y : List Int) : ∀ (N : List Int) (b f : Int), (farG Y N b f ∈ N ∧ farG Y N b f ∉ Y) ∨ ((∀ y ∈ N, y ∈ Y) ∧ ((farG Y N b f = b ∧ ∀ y ∈ N, ixOf Y y ≤ f) ∨ (farG Y N b f ∈ N ∧ f < ixOf Y (farG Y N b f) ∧ ∀ y ∈ N, ixOf Y y ≤ ixOf Y (farG Y N b f))))
  | [], b, f => .inr ⟨by simp, .inl ⟨rfl, by simp⟩⟩
  | p :: N, b, f => by
    unfold farG
    by_cases h1 : ixOf Y p < 0
    · rw [if_pos h1]
      exact .inl ⟨by simp, ixOf_neg.1 h1⟩
    · have hp : p ∈ Y := Classical.byContradiction fun h => h1 (ixOf_neg.2 h)
      rw [if_neg h1]
      by_cases h2 : f < ixOf Y p
      · rw [if_pos h2]
        have ih := farG_ok Y N p (ixOf Y p)
        generalize farG Y N p (ixOf Y p) = o at *
        rcases ih with ih | ⟨ih1, ih | ih⟩
        · exact .inl ⟨by simp [ih.1], ih.2⟩
        · obtain ⟨rfl, ih⟩ := ih
          exact .inr ⟨fun y hy => by rcases List.mem_cons.1 hy with rfl | hy; exact hp; exact ih1 y hy, .inr ⟨by simp, h2, fun y hy => by rcases List.mem_cons.1 hy with rfl | hy; omega; exact ih y hy⟩⟩
        · exact .inr ⟨fun y hy => by rcases List.mem_cons.1 hy with rfl | hy; exact hp; exact ih1 y hy, .inr ⟨by simp [ih.1], by omega, fun y hy => by rcases List.mem_cons.1 hy with rfl | hy; omega; exact ih.2.2 y hy⟩⟩
      · rw [if_neg h2]
        have ih := farG_ok Y N b f
        generalize farG Y N b f = o at *
        rcases ih with ih | ⟨ih1, ih | ih⟩
        · exact .inl ⟨by simp [ih.1], ih.2⟩
        · exact .inr ⟨fun y hy => by rcases List.mem_cons.1 hy with rfl | hy; exact hp; exact ih1 y hy, .inl ⟨ih.1, fun y hy => by rcases List.mem_cons.1 hy with rfl | hy; omega; exact ih.2 y hy⟩⟩
        · exact .inr ⟨fun y hy => by rcases List.mem_cons.1 hy with rfl | hy; exact hp; exact ih1 y hy, .inr ⟨by simp [ih.1], ih.2.1, fun y hy => by rcases List.mem_cons.1 hy with rfl | hy; omega; exact ih.2.2 y hy⟩⟩
theorem farG_best {Y N : List Int} (h : N ≠ []) : farG Y N (-1) (-1) ∈ N ∧ ∀ y ∈ N, bef Y y (farG Y N (-1) (-1)) := by
  rcases farG_ok Y N (-1) (-1) with h1 | ⟨h1, h2 | h2⟩
  · exact ⟨h1.1, fun y _ => bef_ix (.inl h1.2)⟩
  · obtain ⟨y, hy⟩ := List.exists_mem_of_ne_nil N h
    have h3 := (ixOf_in (h1 y hy)).1
    have h4 := h2.2 y hy
    omega
  · refine ⟨h2.1, fun y hy => bef_ix (.inr ⟨h1 y hy, ?_⟩)⟩
    have h3 := h2.2.2 y hy
    rw [ixOf, ixOf, if_pos (h1 y hy), if_pos (h1 _ h2.1)] at h3
    omega
/-- the choice of the farthest plan -/
def farC (X : List Int) (t : Nat) (N : List Int) : Int := farG (X.drop (t + 1)) N (-1) (-1)
theorem farC_ok {k : Int} {X : List Int} (hk : 1 ≤ k) : ChOk k (farC X) X := by
  refine ⟨fun t _ _ h => (farG_best fun e => ?_).1, fun t _ _ h => (farG_best fun e => ?_).2⟩
  · rw [e] at h; simp at h; omega
  · rw [e] at h; simp at h; omega

/-- a plan by a choice runs through the caches of the choice -/
theorem pb_rn {k : Int} {ch : Nat → List Int → Int} {X : List Int} (h : ChOk k ch X) (hX0 : ∀ s, s < X.length → 0 ≤ nth X s) : ∀ {t : Nat}, t ≤ X.length → rnC X (pbL k ch X X.length) t = pbC k ch X t
  | 0, _ => rfl
  | t + 1, ht => by
    rw [rnC, pb_rn h hX0 (by omega), pbL_at (by omega), pbC, nextC, pbN]
    by_cases h1 : nth X t ∈ pbC k ch X t
    · have hp : pbP k ch X t = -1 := by rw [pbP, if_neg (fun hh => hh.1 h1)]
      rw [if_pos h1, if_pos h1, hp, if_neg (by omega)]
    · rw [if_neg h1, if_neg h1]
      by_cases h2 : ((pbC k ch X t).length : Int) = k
      · have hm := h.mem t (by omega) h1 h2
        have h0 : 0 ≤ ch t (pbC k ch X t) := by
          obtain ⟨s, hs, e⟩ := pbC_mem hm
          rw [← e]; exact hX0 s (by omega)
        have hp : pbP k ch X t = ch t (pbC k ch X t) := by rw [pbP, if_pos ⟨h1, h2⟩]
        rw [hp, if_pos h2, if_pos h0]
      · have hp : pbP k ch X t = -1 := by rw [pbP, if_neg (fun hh => h2 hh.2)]
        rw [hp, if_neg h2, if_neg (by omega)]
theorem ftF_snoc (F : Nat → Bool) : ∀ (d t : Nat), ftF F t (d + 1) = ftF F t d + if F (t + d) then 1 else 0
  | 0, t => by simp [ftF]
  | d + 1, t => by
    rw [ftF, ftF_snoc F d (t + 1), ftF, show t + 1 + d = t + (d + 1) by omega]
    omega
theorem rnF_ft {k : Int} {ch : Nat → List Int → Int} {X : List Int} (h : ChOk k ch X) (hX0 : ∀ s, s < X.length → 0 ≤ nth X s) : ∀ {t : Nat}, t ≤ X.length → rnF X (pbL k ch X X.length) t = ftF (fun s => decide (nth X s ∉ pbC k ch X s)) 0 t
  | 0, _ => rfl
  | t + 1, ht => by
    have e : rnF X (pbL k ch X X.length) (t + 1) = rnF X (pbL k ch X X.length) t + (if nth X t ∈ rnC X (pbL k ch X X.length) t then 0 else 1) := rfl
    rw [e, rnF_ft h hX0 (by omega), pb_rn h hX0 (by omega), ftF_snoc, Nat.zero_add]
    by_cases h1 : nth X t ∈ pbC k ch X t
    · rw [if_pos h1]; simp [h1]
    · rw [if_neg h1]; simp [h1]
/-- the fewest faults with k places -/
def optF (k : Int) (X : List Int) : Nat := ftF (fun s => decide (nth X s ∉ pbC k (farC X) X s)) 0 X.length
theorem optF_run {k : Int} {X : List Int} (hk : 1 ≤ k) (hX0 : ∀ s, s < X.length → 0 ≤ nth X s) : Run X (cst k []) (optF k X) ∧ ∀ c, Run X (cst k []) c → optF k X ≤ c := by
  have := bel_least hk (farC_ok hk) hX0 X.length 0 (by omega)
  exact this
theorem msk_zero (k : Nat) (y : Int) : msk k 0 y ↔ cst k [] y := by
  have h : szS 0 = 0 := by decide
  simp only [msk, cst, Nat.zero_testBit, h]
  simp
theorem few_opt {k n : Nat} {X : List Int} (hn : n ≤ 8) (h0 : 0 < k) (hX : pagesB n X) : lstT k X X.length 0 = optF k X := by
  obtain ⟨⟨c, h1, h2⟩, h3⟩ := few_run hn h0 hX X.length 0 (Nat.le_refl _) (Nat.two_pow_pos n) (Nat.zero_le k)
  obtain ⟨h4, h5⟩ := optF_run (k := k) (X := X) (by omega) (fun s hs => (hX s hs).1)
  rw [Nat.sub_self, List.drop_zero] at h2 h3
  have h6 := h5 c (h2.same (msk_zero k))
  have h7 := h3 _ (h4.same fun y => (msk_zero k y).symm)
  omega
/-- what the law asks of the curve -/
theorem cv_law {X : List Int} (hX0 : ∀ s, s < X.length → 0 ≤ nth X s) {k : Int} (hk : 1 ≤ k) :
    (difL X).length ≤ optF k X ∧ (((difL X).length : Int) ≤ k → optF k X = (difL X).length) ∧ optF k X ≤ X.length ∧ optF (k + 1) X ≤ optF k X ∧ (2 ≤ k → 2 * optF k X ≤ optF (k - 1) X + optF (k + 1) X) := by
  have h0 : ∀ y ∈ X, 0 ≤ y := fun y hy => by
    obtain ⟨j, hj, rfl⟩ := mem_iff_nth.1 hy
    exact hX0 j hj
  obtain ⟨h1, h2⟩ := optF_run hk hX0
  obtain ⟨h3, h4⟩ := optF_run (k := k + 1) (by omega) hX0
  have hnd : (difL X).Nodup := (difL_sasc X).imp fun h => by omega
  have hd := run_dist h1 (difL X) hnd fun y hy => by
    have hm := mem_difL.1 hy
    refine ⟨hm, fun e => ?_⟩
    have := h0 y hm
    simp only [cst, List.not_mem_nil, false_or] at e
    omega
  refine ⟨hd, fun hle => ?_, h1.le, ?_, fun h2k => ?_⟩
  · obtain ⟨c, h5, h6⟩ := run_many (X := X) (S := cst k []) (L := difL X) (j := k.toNat) h0 (fun y hy => .inr (mem_difL.2 hy)) (by omega) (fun i hi hik => .inr (by simp only [List.length_nil]; omega))
    have := h2 c h6
    omega
  · obtain ⟨c, h5, h6⟩ := run_more h1
    have := h4 c h6
    omega
  · obtain ⟨h7, h8⟩ := optF_run (k := k - 1) (by omega) hX0
    obtain ⟨c, d, h9, h10, h11⟩ := run_convex h0 hk h7 h3
    have := h2 c h10
    have := h2 d h11
    omega
end Go.Proofs.Ytmabejallkjjmaa
