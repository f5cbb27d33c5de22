/- The table of the fewest faults tells the least run; what the curve of the fewest faults has. -/
import Derived.Test.YtmabejallkjjmaaCvB
import Derived.Test.YtmabejallkjjmaaPagP
namespace Go.Proofs.Ytmabejallkjjmaa
open Go.RowKit

set_option maxRecDepth 100000 in
theorem sz_or_new : ∀ S, S < 256 → ∀ p, p < 8 → S.testBit p = false → szS (S ||| 2 ^ p) = szS S + 1 := by decide
set_option maxRecDepth 1000000 in
theorem bit_sub : ∀ S, S < 256 → ∀ q, q < 8 → S.testBit q = true → ∀ j, j < 8 → (S - 2 ^ q).testBit j = (S.testBit j && decide (j ≠ q)) := by decide
/-- a set of pages as a mask, the empty places filled up -/
def msk (k S : Nat) : Int → Prop := fun y => (∃ q : Nat, y = q ∧ S.testBit q = true) ∨ (-((k : Int) - szS S) ≤ y ∧ y < 0)
theorem bit_lt {S q : Nat} (hS : S < 256) (h : S.testBit q = true) : q < 8 := by
  by_cases h8 : q < 8
  · exact h8
  · have h2 : 2 ^ 8 ≤ 2 ^ q := Nat.pow_le_pow_right (by omega) (by omega)
    rw [Nat.testBit_lt_two_pow (by omega)] at h
    cases h
theorem bit_orP {S p q : Nat} : (S ||| 2 ^ p).testBit q = (S.testBit q || decide (p = q)) := by
  rw [Nat.testBit_or, Nat.testBit_two_pow]
theorem msk_room {k S p : Nat} (hS : S < 256) (hp : p < 8) (hb : S.testBit p = false) (hk : szS S < k) (y : Int) : swp (msk k S) (-((k : Int) - szS S)) p y ↔ msk k (aftS S (-1) p) y := by
  have h1 := sz_or_new S hS p hp hb
  have e : aftS S (-1) p = S ||| 2 ^ p := by unfold aftS; rw [if_neg (by omega)]
  rw [e]
  simp only [swp, msk, h1, bit_orP]
  constructor
  · rintro (h | ⟨h, ⟨q, rfl, h3⟩ | h3⟩)
    · exact .inl ⟨p, h, by simp⟩
    · exact .inl ⟨q, rfl, by simp [h3]⟩
    · exact .inr (by omega)
  · rintro (⟨q, rfl, h3⟩ | h3)
    · by_cases e : p = q
      · subst e; exact .inl rfl
      · refine .inr ⟨by omega, .inl ⟨q, rfl, ?_⟩⟩
        simpa [e] using h3
    · exact .inr ⟨by omega, .inr (by omega)⟩
theorem msk_full {k S p q : Nat} (hS : S < 256) (hp : p < 8) (hb : S.testBit p = false) (hq : S.testBit q = true) (y : Int) : swp (msk k S) q p y ↔ msk k (aftS S q p) y := by
  have hq8 := bit_lt hS hq
  have hS2 : S - 2 ^ q < 256 := Nat.lt_of_le_of_lt (Nat.sub_le _ _) hS
  have hpq : p ≠ q := fun e => by rw [e, hq] at hb; cases hb
  have hb2 : (S - 2 ^ q).testBit p = false := by rw [bit_sub S hS q hq8 hq p hp, hb]; rfl
  have h1 := sz_or_new (S - 2 ^ q) hS2 p hp hb2
  have h2 := sz_sub S hS q hq8 hq
  have e : aftS S q p = (S - 2 ^ q) ||| 2 ^ p := by unfold aftS; rw [if_pos (by omega), Int.toNat_natCast]
  have hbit : ∀ j, (S - 2 ^ q).testBit j = (S.testBit j && decide (j ≠ q)) := fun j => by
    by_cases hj : j < 8
    · exact bit_sub S hS q hq8 hq j hj
    · have h8 : ∀ T, T < 256 → T.testBit j = false := fun T hT => by
        cases h : T.testBit j with
        | false => rfl
        | true => exact absurd (bit_lt hT h) hj
      rw [h8 _ hS2, h8 _ hS]; rfl
  rw [e]
  simp only [swp, msk, bit_orP, hbit]
  have hsz : ((szS (S - 2 ^ q ||| 2 ^ p) : Nat) : Int) = szS S := by omega
  rw [hsz]
  constructor
  · rintro (h | ⟨h, ⟨j, rfl, h3⟩ | h3⟩)
    · exact .inl ⟨p, h, by simp⟩
    · refine .inl ⟨j, rfl, ?_⟩
      have : j ≠ q := fun e => h (by rw [e])
      simp [h3, this]
    · exact .inr h3
  · rintro (⟨j, rfl, h3⟩ | h3)
    · by_cases e : p = j
      · subst e; exact .inl rfl
      · simp only [e, decide_false, Bool.or_false, Bool.and_eq_true, decide_eq_true_eq] at h3
        exact .inr ⟨by omega, .inl ⟨j, rfl, h3.1⟩⟩
    · exact .inr ⟨by omega, .inr h3⟩
theorem pg_has {n S q : Nat} (hq : q < n) (h : S.testBit q = true) : (q : Int) ∈ pgS n S := List.mem_map.2 ⟨q, List.mem_filter.2 ⟨List.mem_range.2 hq, h⟩, rfl⟩
/-- the table tells the least run -/
theorem few_run {k n : Nat} {X : List Int} (hn : n ≤ 8) (h0 : 0 < k) (hX : pagesB n X) : ∀ (d S : Nat), d ≤ X.length → S < 2 ^ n → szS S ≤ k →
    (∃ c : Nat, (c : Int) = lstT k X d S ∧ Run (X.drop (X.length - d)) (msk k S) c) ∧ ∀ c : Nat, Run (X.drop (X.length - d)) (msk k S) c → lstT k X d S ≤ c
  | 0, S, _, _, _ => by
    rw [List.drop_eq_nil_of_le (by omega)]
    exact ⟨⟨0, by simp [lstT], .nil _⟩, fun c _ => by simp [lstT]⟩
  | d + 1, S, hd, hS, hk => by
    have hr := hX (X.length - (d + 1)) (by omega)
    have hS8 : S < 256 := Nat.lt_of_lt_of_le hS (pow_le_256 hn)
    have hlt : X.length - (d + 1) < X.length := by omega
    have hdr : X.drop (X.length - (d + 1)) = nth X (X.length - (d + 1)) :: X.drop (X.length - d) := by
      rw [List.drop_eq_getElem_cons hlt, show X.length - (d + 1) + 1 = X.length - d by omega]
      simp [nth, hlt]
    have hne : ∀ y ∈ X.drop (X.length - d), 0 ≤ y := fun y hy => by
      obtain ⟨j, hj, rfl⟩ := mem_iff_nth.1 (List.mem_of_mem_drop hy)
      exact (hX j hj).1
    have hb2 := (few_lst hn h0 hX (d := d + 1) hd hS hk).2
    obtain ⟨p, hp⟩ : ∃ p : Nat, nth X (X.length - (d + 1)) = p := ⟨(nth X (X.length - (d + 1))).toNat, by omega⟩
    rw [hdr]
    rw [hp] at hr ⊢
    have hpn : p < n := by omega
    have hpt : (nth X (X.length - (d + 1))).toNat = p := by rw [hp]; simp
    cases hb : S.testBit p with
    | true =>
      obtain ⟨⟨c, h1, h2⟩, h3⟩ := few_run hn h0 hX d S (by omega) hS hk
      rw [lstT_hit (by rw [hpt]; exact hb)]
      have hin : msk k S p := .inl ⟨p, rfl, hb⟩
      refine ⟨⟨c, h1, .hit hin h2⟩, fun c hc => ?_⟩
      cases hc with
      | hit _ hc => exact h3 _ hc
      | miss hh _ _ => exact absurd hin hh
    | false =>
      have hnin : ¬ msk k S p := by
        rintro (⟨q, h1, h2⟩ | h1)
        · have : p = q := by omega
          rw [this, h2] at hb; cases hb
        · omega
      rw [lstT_miss (by rw [hpt]; exact hb), hpt] at hb2 ⊢
      have hch := choF_eight (k := k) hn hS
      rw [hch] at hb2 ⊢
      have hall : ∀ x ∈ choF k n S, (∃ c : Nat, (c : Int) = lstT k X d (aftS S x p) ∧ Run (X.drop (X.length - d)) (msk k (aftS S x p)) c) ∧ ∀ c : Nat, Run (X.drop (X.length - d)) (msk k (aftS S x p)) c → lstT k X d (aftS S x p) ≤ c :=
        fun x hx => few_run hn h0 hX d (aftS S x p) (by omega) (aft_lt hS hpn) (aft_sz hn hS hpn hk hx)
      obtain ⟨g1, g2, g3⟩ := fold_bounds (L := (choF k n S).map fun x => 1 + lstT k X d (aftS S x p)) (a := (X.length : Int) + 1)
      refine ⟨?_, fun c hc => ?_⟩
      · rcases g3 with g3 | g3
        · omega
        · obtain ⟨x, hx, hv⟩ := List.mem_map.1 g3
          obtain ⟨⟨c, h1, h2⟩, _⟩ := hall x hx
          refine ⟨c + 1, by rw [← hv]; omega, ?_⟩
          rcases mem_choF hx with ⟨rfl, h4⟩ | ⟨q, rfl, h4, h5⟩
          · exact .miss hnin (.inr (by omega)) (h2.same fun y => (msk_room hS8 (by omega) hb h4 y).symm)
          · exact .miss hnin (.inl ⟨q, rfl, h5⟩) (h2.same fun y => (msk_full hS8 (by omega) hb h5 y).symm)
      · by_cases hroom : szS S < k
        · obtain ⟨c', h3, h4⟩ := run_best (x := -((k : Int) - szS S)) hnin (.inr (by omega)) (fun y _ => bef_never fun z hz => by have := hne z hz; omega) hc
          have hx : (-1 : Int) ∈ choF k n S := List.mem_append.2 (.inl (by rw [if_pos hroom]; simp))
          have h5 := (hall _ hx).2 _ (h4.same fun y => msk_room hS8 (by omega) hb hroom y)
          have h6 := g2 _ (List.mem_map.2 ⟨_, hx, rfl⟩)
          omega
        · cases hc with
          | hit hh _ => exact absurd hh hnin
          | @miss _ o _ _ c0 _ ho hc =>
            rcases ho with ⟨q, rfl, hq⟩ | ho
            · have hq8 := bit_lt hS8 hq
              have hx : (q : Int) ∈ choF k n S := List.mem_append.2 (.inr (by rw [← pg_eight hn hS]; exact pg_has hq8 hq))
              have h5 := (hall _ hx).2 _ (hc.same fun y => msk_full hS8 (by omega) hb hq y)
              have h6 := g2 _ (List.mem_map.2 ⟨_, hx, rfl⟩)
              omega
            · omega

/-- every page that is not there at first costs a fault -/
theorem run_dist : ∀ {X : List Int} {S : Int → Prop} {c : Nat}, Run X S c → ∀ L : List Int, L.Nodup → (∀ y ∈ L, y ∈ X ∧ ¬ S y) → L.length ≤ c
  | [], S, c, _, L, _, h => by
    cases L with
    | nil => simp
    | cons y L => exact absurd (h y (by simp)).1 (by simp)
  | r :: X, S, c, hr, L, hL, h => by
    cases hr with
    | hit hS hr =>
      refine run_dist hr L hL fun y hy => ⟨?_, (h y hy).2⟩
      rcases List.mem_cons.1 (h y hy).1 with e | e
      · exact absurd (e ▸ hS) (h y hy).2
      · exact e
    | @miss _ o _ _ c0 hn ho hr =>
      have h1 := run_dist hr (L.erase r) (hL.erase r) fun y hy => by
        have hm := (List.Nodup.mem_erase_iff hL).1 hy
        refine ⟨?_, fun e => ?_⟩
        · rcases List.mem_cons.1 (h y hm.2).1 with e | e
          · exact absurd e hm.1
          · exact e
        · rcases e with e | e
          · exact hm.1 e
          · exact (h y hm.2).2 e.2
      have h2 := List.length_erase (a := r) (l := L)
      split at h2 <;> omega
/-- with places enough no page costs a second one -/
theorem run_many : ∀ {X : List Int} {S : Int → Prop} {L : List Int} {j : Nat}, (∀ y ∈ X, 0 ≤ y) → (∀ y ∈ X, S y ∨ y ∈ L) → L.length ≤ j → (∀ i : Nat, 1 ≤ i → i ≤ j → S (-(i : Int))) → ∃ c, c ≤ L.length ∧ Run X S c
  | [], S, L, j, _, _, _, _ => ⟨0, by omega, .nil _⟩
  | r :: X, S, L, j, h0, hS, hl, hj => by
    by_cases hr : S r
    · obtain ⟨c, h1, h2⟩ := run_many (X := X) (S := S) (L := L) (j := j) (fun y hy => h0 y (by simp [hy])) (fun y hy => hS y (by simp [hy])) hl hj
      exact ⟨c, h1, .hit hr h2⟩
    · have hrL : r ∈ L := by
        rcases hS r (by simp) with e | e
        · exact absurd e hr
        · exact e
      have h2 := List.length_erase_of_mem hrL
      have h3 : 0 < L.length := List.length_pos_of_mem hrL
      have hr0 := h0 r (by simp)
      obtain ⟨c, h4, h5⟩ := run_many (X := X) (S := swp S (-(j : Int)) r) (L := L.erase r) (j := j - 1) (fun y hy => h0 y (by simp [hy])) (fun y hy => by
        by_cases e : y = r
        · exact .inl (.inl e)
        · have hy0 := h0 y (by simp [hy])
          rcases hS y (by simp [hy]) with e2 | e2
          · exact .inl (.inr ⟨by omega, e2⟩)
          · exact .inr ((List.mem_erase_of_ne e).2 e2)) (by omega) (fun i hi hij => .inr ⟨by omega, hj i hi (by omega)⟩)
      exact ⟨c + 1, by omega, .miss hr (hj j (by omega) (Nat.le_refl _)) h5⟩
theorem run_more {X : List Int} {k : Int} {c : Nat} (h : Run X (cst k []) c) : ∃ c', c' ≤ c ∧ Run X (cst (k + 1) []) c' :=
  run_mono (fun y hy => by
    simp only [cst, List.not_mem_nil, false_or, List.length_nil] at hy ⊢
    omega) h
/-- one place more helps by less and less -/
theorem run_convex {X : List Int} {k : Int} {a b : Nat} (h0 : ∀ y ∈ X, 0 ≤ y) (hk : 1 ≤ k) (ha : Run X (cst (k - 1) []) a) (hb : Run X (cst (k + 1) []) b) : ∃ c d, c + d ≤ a + b ∧ Run X (cst k []) c ∧ Run X (cst k []) d := by
  obtain ⟨m, h1, h2⟩ := run_cvx ha hb
  obtain ⟨c, d, h3, h4, h5⟩ := h2 (cst k []) (ins (cst (k - 1) []) (-(k + 1))) ⟨fun x => by
    simp only [cst, ins, List.not_mem_nil, false_or, List.length_nil]
    omega, fun x => by
    simp only [cst, ins, List.not_mem_nil, false_or, List.length_nil]
    omega, fun x hx => by
    have i0 := h1.inv x
    have i1 := h1.dif x hx
    have i2 := h1.dif (m x) (by rw [i0]; exact fun e => hx e.symm)
    simp only [cst, List.not_mem_nil, false_or, List.length_nil] at i1 i2 ⊢
    omega⟩
  obtain ⟨d', h6, h7⟩ := run_exch (a := -k) (b := -(k + 1)) (S := cst (k - 1) []) (by simp only [cst, List.not_mem_nil, false_or, List.length_nil]; omega) (by simp only [cst, List.not_mem_nil, false_or, List.length_nil]; omega) (bef_never fun z hz => by have := h0 z hz; omega) h5
  exact ⟨c, d', by omega, h4, h7.same fun y => by
    simp only [cst, ins, List.not_mem_nil, false_or, List.length_nil]
    omega⟩
end Go.Proofs.Ytmabejallkjjmaa
