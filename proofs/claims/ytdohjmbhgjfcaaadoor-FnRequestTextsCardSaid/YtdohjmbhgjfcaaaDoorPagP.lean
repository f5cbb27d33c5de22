/- Plans with the fewest faults, in plain Lean: sets of pages as masks, the table of the fewest faults, and what the program finds with its own recursion. -/
import Derived.Test.YtdohjmbhgjfcaaaDoorBase
namespace Go.Proofs.YtdohjmbhgjfcaaaDoor
open Go.RowKit

def szS (S : Nat) : Nat := ((List.range 8).filter fun p => S.testBit p).length
def aftS (S : Nat) (out : Int) (p : Nat) : Nat := (if 0 ≤ out then S - 2 ^ out.toNat else S) ||| 2 ^ p
/-- the pages in a set, of the first n -/
def pgS (n S : Nat) : List Int := ((List.range n).filter fun p => S.testBit p).map fun (p : Nat) => (p : Int)
/-- what may leave at a fault -/
def choF (k n S : Nat) : List Int := (if szS S < k then [-1] else []) ++ pgS n S
def choS (k n S p : Nat) : List Int := if S.testBit p then [-1] else choF k n S

set_option maxRecDepth 100000 in
theorem or_same : ∀ S, S < 256 → ∀ p, p < 8 → S.testBit p = true → S ||| 2 ^ p = S := by decide
set_option maxRecDepth 100000 in
theorem sz_or : ∀ S, S < 256 → ∀ p, p < 8 → szS (S ||| 2 ^ p) ≤ szS S + 1 := by decide
set_option maxRecDepth 100000 in
theorem sz_sub : ∀ S, S < 256 → ∀ q, q < 8 → S.testBit q = true → szS (S - 2 ^ q) + 1 = szS S := by decide
set_option maxRecDepth 100000 in
theorem sz_le : ∀ S, S < 256 → szS S ≤ 8 := by decide

theorem mem_pgS {n S : Nat} {x : Int} (h : x ∈ pgS n S) : ∃ q : Nat, x = q ∧ q < n ∧ S.testBit q = true := by
  obtain ⟨q, hq, rfl⟩ := List.mem_map.1 h
  rw [List.mem_filter, List.mem_range] at hq
  exact ⟨q, rfl, hq.1, hq.2⟩
theorem mem_choF {k n S : Nat} {x : Int} (h : x ∈ choF k n S) : (x = -1 ∧ szS S < k) ∨ ∃ q : Nat, x = q ∧ q < n ∧ S.testBit q = true := by
  rcases List.mem_append.1 h with h | h
  · split at h
    · next h1 => simp at h; exact .inl ⟨h, h1⟩
    · simp at h
  · exact .inr (mem_pgS h)
theorem pow_le_256 {n : Nat} (h : n ≤ 8) : 2 ^ n ≤ 256 := Nat.pow_le_pow_right (by omega) h
theorem aft_lt {n S p : Nat} {x : Int} (hS : S < 2 ^ n) (hp : p < n) : aftS S x p < 2 ^ n := by
  unfold aftS
  refine Nat.or_lt_two_pow ?_ (Nat.pow_lt_pow_right (by omega) hp)
  split
  · exact Nat.lt_of_le_of_lt (Nat.sub_le _ _) hS
  · exact hS
/-- behind a fault the set is not too large -/
theorem aft_sz {k n S p : Nat} {x : Int} (hn : n ≤ 8) (hS : S < 2 ^ n) (hp : p < n) (hk : szS S ≤ k) (hx : x ∈ choF k n S) : szS (aftS S x p) ≤ k := by
  have h8 := pow_le_256 hn
  rcases mem_choF hx with ⟨rfl, h1⟩ | ⟨q, rfl, h1, h2⟩
  · have := sz_or S (by omega) p (by omega)
    show szS ((if (0 : Int) ≤ -1 then _ else S) ||| 2 ^ p) ≤ k
    rw [if_neg (by omega)]
    omega
  · have h3 := sz_sub S (by omega) q (by omega) h2
    have h4 := sz_or (S - 2 ^ q) (Nat.lt_of_le_of_lt (Nat.sub_le _ _) (by omega)) p (by omega)
    show szS ((if (0 : Int) ≤ (q : Int) then S - 2 ^ (q : Int).toNat else S) ||| 2 ^ p) ≤ k
    rw [if_pos (by omega), Int.toNat_natCast]
    omega
theorem aft_hit {n S p : Nat} (hn : n ≤ 8) (hS : S < 2 ^ n) (hp : p < n) (h : S.testBit p = true) : aftS S (-1) p = S := by
  have h8 := pow_le_256 hn
  unfold aftS
  rw [if_neg (by omega)]
  exact or_same S (by omega) p (by omega) h
/-- the first 8 pages in a set are those of the first n -/
theorem pg_eight {n S : Nat} (hn : n ≤ 8) (hS : S < 2 ^ n) : pgS 8 S = pgS n S := by
  unfold pgS
  congr 1
  have h : List.range 8 = List.range n ++ (List.range (8 - n)).map (n + ·) := by
    rw [← List.range_add, Nat.add_sub_cancel' hn]
  rw [h, List.filter_append]
  have : ((List.range (8 - n)).map (n + ·)).filter (fun p => S.testBit p) = [] := by
    rw [List.filter_eq_nil_iff]
    intro q hq
    obtain ⟨j, _, rfl⟩ := List.mem_map.1 hq
    rw [Nat.testBit_lt_two_pow (Nat.lt_of_lt_of_le hS (Nat.pow_le_pow_right (by omega) (Nat.le_add_right n j)))]
    simp
  rw [this, List.append_nil]
/-- one step of looking for the least -/
def fewStep (best sum : Int) : Int := if best < 0 ∨ sum < best then sum else best
/-- the fewest faults with d requests left, as the reference's table has them -/
def fewT (k n : Nat) (X : List Int) : Nat → Nat → Int
  | 0, _ => 0
  | d + 1, S => let p := (nth X (X.length - (d + 1))).toNat
    if szS S ≤ k then ((choS k n S p).map fun x => fewT k n X d (aftS S x p) + if S.testBit p then 0 else 1).foldl fewStep (-1) else -1
/-- the same as the program finds it -/
def lstT (k : Nat) (X : List Int) : Nat → Nat → Int
  | 0, _ => 0
  | d + 1, S => let p := (nth X (X.length - (d + 1))).toNat
    if S.testBit p then lstT k X d S else ((choF k 8 S).map fun x => 1 + lstT k X d (aftS S x p)).foldl min ((X.length : Int) + 1)
theorem fewStep_nn {a b : Int} (ha : 0 ≤ a) : fewStep a b = min a b := by
  unfold fewStep
  by_cases h : b < a
  · rw [if_pos (.inr h)]; omega
  · rw [if_neg (by omega)]; omega
theorem fold_few : ∀ {L : List Int} {a : Int}, 0 ≤ a → (∀ x ∈ L, 0 ≤ x) → L.foldl fewStep a = L.foldl min a
  | [], _, _, _ => rfl
  | x :: L, a, ha, h => by
    have h1 := h x (by simp)
    rw [List.foldl_cons, List.foldl_cons, fewStep_nn ha]
    exact fold_few (by omega) (fun y hy => h y (by simp [hy]))
theorem fold_first {x b : Int} {L : List Int} (h0 : 0 ≤ x) (hb : x ≤ b) (h : ∀ y ∈ L, 0 ≤ y) : (x :: L).foldl fewStep (-1) = (x :: L).foldl min b := by
  rw [List.foldl_cons, List.foldl_cons, show fewStep (-1) x = x from by unfold fewStep; rw [if_pos (.inl (by omega))], show min b x = x by omega]
  exact fold_few h0 h
theorem fold_bounds : ∀ {L : List Int} {a : Int}, (L.foldl min a ≤ a) ∧ (∀ x ∈ L, L.foldl min a ≤ x) ∧ (L.foldl min a = a ∨ L.foldl min a ∈ L)
  | [], a => ⟨by simp, by simp, .inl rfl⟩
  | x :: L, a => by
    obtain ⟨h1, h2, h3⟩ := fold_bounds (L := L) (a := min a x)
    rw [List.foldl_cons]
    refine ⟨by omega, fun y hy => ?_, ?_⟩
    · rcases List.mem_cons.1 hy with rfl | hy
      · omega
      · exact h2 y hy
    · rcases h3 with h3 | h3
      · rw [h3]
        rcases Int.le_total a x with h | h
        · left; omega
        · right; rw [Int.min_eq_right h]; simp
      · right; simp [h3]
theorem choF_ne {k n S : Nat} (hn : n ≤ 8) (hS : S < 2 ^ n) (h0 : 0 < k) : choF k n S ≠ [] := by
  unfold choF
  by_cases h : szS S < k
  · rw [if_pos h]; simp
  · rw [if_neg h, List.nil_append, ← pg_eight hn hS]
    intro e
    have : szS S = (pgS 8 S).length := by simp [szS, pgS]
    rw [e] at this
    simp at this
    omega
theorem choF_eight {k n S : Nat} (hn : n ≤ 8) (hS : S < 2 ^ n) : choF k 8 S = choF k n S := by unfold choF; rw [pg_eight hn hS]
/-- all requests are pages -/
def pagesB (n : Nat) (X : List Int) : Prop := ∀ j, j < X.length → 0 ≤ nth X j ∧ nth X j < n
theorem fewT_hit {k n d S : Nat} {X : List Int} (h : szS S ≤ k) (hp : S.testBit (nth X (X.length - (d + 1))).toNat = true) :
    fewT k n X (d + 1) S = fewStep (-1) (fewT k n X d (aftS S (-1) (nth X (X.length - (d + 1))).toNat) + 0) := by
  rw [fewT]
  simp only [if_pos h, choS, hp, if_true, List.map_cons, List.map_nil, List.foldl_cons, List.foldl_nil]
theorem fewT_miss {k n d S : Nat} {X : List Int} (h : szS S ≤ k) (hp : S.testBit (nth X (X.length - (d + 1))).toNat = false) :
    fewT k n X (d + 1) S = ((choF k n S).map fun x => fewT k n X d (aftS S x (nth X (X.length - (d + 1))).toNat) + 1).foldl fewStep (-1) := by
  rw [fewT]
  simp only [if_pos h, choS, hp, Bool.false_eq_true, if_false]
theorem lstT_hit {k d S : Nat} {X : List Int} (hp : S.testBit (nth X (X.length - (d + 1))).toNat = true) : lstT k X (d + 1) S = lstT k X d S := by
  rw [lstT]
  simp only [hp, if_true]
theorem lstT_miss {k d S : Nat} {X : List Int} (hp : S.testBit (nth X (X.length - (d + 1))).toNat = false) :
    lstT k X (d + 1) S = ((choF k 8 S).map fun x => 1 + lstT k X d (aftS S x (nth X (X.length - (d + 1))).toNat)).foldl min ((X.length : Int) + 1) := by
  rw [lstT]
  simp only [hp, Bool.false_eq_true, if_false]
theorem few_lst {k n : Nat} {X : List Int} (hn : n ≤ 8) (h0 : 0 < k) (hX : pagesB n X) : ∀ {d S : Nat}, d ≤ X.length → S < 2 ^ n → szS S ≤ k → fewT k n X d S = lstT k X d S ∧ 0 ≤ lstT k X d S ∧ lstT k X d S ≤ d
  | 0, S, _, _, _ => by simp [fewT, lstT]
  | d + 1, S, hd, hS, hk => by
    have hr := hX (X.length - (d + 1)) (by omega)
    generalize hp : (nth X (X.length - (d + 1))).toNat = p at *
    have hpn : p < n := by omega
    cases hb : S.testBit p with
    | true =>
      have ih := few_lst hn h0 hX (d := d) (by omega) hS hk
      rw [fewT_hit hk (by rw [hp]; exact hb), lstT_hit (by rw [hp]; exact hb), hp, aft_hit hn hS hpn hb, ih.1]
      refine ⟨?_, ih.2.1, by omega⟩
      unfold fewStep
      rw [if_pos (.inl (by omega)), Int.add_zero]
    | false =>
      rw [fewT_miss hk (by rw [hp]; exact hb), lstT_miss (by rw [hp]; exact hb), hp, choF_eight hn hS]
      have hall : ∀ x ∈ choF k n S, fewT k n X d (aftS S x p) = lstT k X d (aftS S x p) ∧ 0 ≤ lstT k X d (aftS S x p) ∧ lstT k X d (aftS S x p) ≤ d :=
        fun x hx => few_lst hn h0 hX (d := d) (by omega) (aft_lt hS hpn) (aft_sz hn hS hpn hk hx)
      have hmap : (choF k n S).map (fun x => fewT k n X d (aftS S x p) + 1) = (choF k n S).map fun x => 1 + lstT k X d (aftS S x p) := by
        refine List.map_congr_left fun x hx => ?_
        rw [(hall x hx).1]; omega
      rw [hmap]
      have hnn : ∀ y ∈ (choF k n S).map (fun x => 1 + lstT k X d (aftS S x p)), 0 ≤ y ∧ y ≤ d + 1 := by
        intro y hy
        obtain ⟨x, hx, rfl⟩ := List.mem_map.1 hy
        have := hall x hx
        omega
      have hne := choF_ne hn hS h0
      clear hmap hall
      have hne' : (choF k n S).map (fun x => 1 + lstT k X d (aftS S x p)) ≠ [] := by simpa using hne
      generalize (choF k n S).map (fun x => 1 + lstT k X d (aftS S x p)) = L at *
      cases L with
      | nil => exact absurd rfl hne'
      | cons y L =>
        have hy := hnn y (by simp)
        rw [fold_first (b := (X.length : Int) + 1) hy.1 (by omega) (fun z hz => (hnn z (by simp [hz])).1)]
        obtain ⟨_, h2, h3⟩ := fold_bounds (L := y :: L) (a := (X.length : Int) + 1)
        have h4 := h2 y (by simp)
        refine ⟨rfl, ?_, by omega⟩
        rcases h3 with h3 | h3
        · rw [h3]; omega
        · exact (hnn _ h3).1
theorem find_same {p q : Int → Bool} : ∀ {L : List Int}, (∀ x ∈ L, p x = q x) → L.find? p = L.find? q
  | [], _ => rfl
  | x :: L, h => by
    have hx := h x (by simp)
    have ih := find_same (L := L) fun y hy => h y (by simp [hy])
    cases hq : q x with
    | true => rw [hq] at hx; rw [List.find?_cons_of_pos hx, List.find?_cons_of_pos hq]
    | false => rw [hq] at hx; rw [List.find?_cons_of_neg (by simp [hx]), List.find?_cons_of_neg (by simp [hq]), ih]
theorem find_at {p : Int → Bool} : ∀ {L : List Int}, (∃ x ∈ L, p x = true) → ∃ j, j < L.length ∧ p (nth L j) = true ∧ (∀ i, i < j → p (nth L i) = false) ∧ (L.find? p).getD (-1) = nth L j
  | [], h => by obtain ⟨x, hx, _⟩ := h; simp at hx
  | x :: L, h => by
    cases hq : p x with
    | true => exact ⟨0, by simp, by simpa [nth] using hq, fun i hi => by omega, by simp [List.find?_cons_of_pos hq, nth]⟩
    | false =>
      have h' : ∃ y ∈ L, p y = true := by
        obtain ⟨y, hy, hp⟩ := h
        rcases List.mem_cons.1 hy with rfl | hy
        · rw [hq] at hp; cases hp
        · exact ⟨y, hy, hp⟩
      obtain ⟨j, h1, h2, h3, h4⟩ := find_at h'
      refine ⟨j + 1, by simpa using h1, by simpa [nth] using h2, ?_, ?_⟩
      · intro i hi
        cases i with
        | zero => simpa [nth] using hq
        | succ i => simpa [nth] using h3 i (by omega)
      · rw [List.find?_cons_of_neg (by simp [hq]), h4]; simp [nth]
/-- what leaves at a place with d requests behind it, as the reference picks it -/
def pickS (k n : Nat) (X : List Int) (d S p : Nat) : Int := ((choS k n S p).find? fun x => decide (fewT k n X d (aftS S x p) + (if S.testBit p then 0 else 1) ≤ fewT k n X (d + 1) S)).getD (-1)
/-- and as the program picks it -/
def pickP (k : Nat) (X : List Int) (d S p : Nat) : Int := if S.testBit p then -1 else ((choF k 8 S).find? fun x => decide (1 + lstT k X d (aftS S x p) = lstT k X (d + 1) S)).getD (-1)
theorem find_one (p : Int → Bool) : ([(-1 : Int)].find? p).getD (-1) = -1 := by
  cases h : p (-1) with
  | true => rw [List.find?_cons_of_pos h]; rfl
  | false => rw [List.find?_cons_of_neg (by simp [h])]; rfl
theorem pick_hit {k n d S p : Nat} {X : List Int} (h : S.testBit p = true) : pickS k n X d S p = -1 ∧ pickP k X d S p = -1 := by
  constructor
  · unfold pickS choS
    simp only [h, if_true]
    exact find_one _
  · unfold pickP; rw [if_pos h]
/-- at a fault both pick the same, and it stands in the list of what may leave -/
theorem pick_miss {k n d S : Nat} {X : List Int} (hn : n ≤ 8) (h0 : 0 < k) (hX : pagesB n X) (hd : d + 1 ≤ X.length) (hS : S < 2 ^ n) (hk : szS S ≤ k) (hb : S.testBit (nth X (X.length - (d + 1))).toNat = false) :
    pickS k n X d S (nth X (X.length - (d + 1))).toNat = pickP k X d S (nth X (X.length - (d + 1))).toNat ∧
    ∃ j, j < (choF k n S).length ∧ pickP k X d S (nth X (X.length - (d + 1))).toNat = nth (choF k n S) j ∧
      (∀ i, i ≤ j → (1 + lstT k X d (aftS S (nth (choF k n S) i) (nth X (X.length - (d + 1))).toNat) = lstT k X (d + 1) S ↔ i = j)) ∧
      ∀ i, i ≤ j → (fewT k n X d (aftS S (nth (choF k n S) i) (nth X (X.length - (d + 1))).toNat) + 1 ≤ fewT k n X (d + 1) S ↔ i = j) := by
  have hr := hX (X.length - (d + 1)) (by omega)
  have htop := few_lst hn h0 hX (d := d + 1) hd hS hk
  have hl := lstT_miss (k := k) (d := d) (X := X) hb
  rw [choF_eight hn hS] at hl
  generalize hp : (nth X (X.length - (d + 1))).toNat = p at *
  have hpn : p < n := by omega
  have hall : ∀ x ∈ choF k n S, fewT k n X d (aftS S x p) = lstT k X d (aftS S x p) ∧ 0 ≤ lstT k X d (aftS S x p) ∧ lstT k X d (aftS S x p) ≤ d :=
    fun x hx => few_lst hn h0 hX (d := d) (by omega) (aft_lt hS hpn) (aft_sz hn hS hpn hk hx)
  obtain ⟨_, hmin, hatt⟩ := fold_bounds (L := (choF k n S).map fun x => 1 + lstT k X d (aftS S x p)) (a := (X.length : Int) + 1)
  rw [← hl] at hmin hatt
  have hm : ∀ x ∈ choF k n S, lstT k X (d + 1) S ≤ 1 + lstT k X d (aftS S x p) := fun x hx => hmin _ (List.mem_map.2 ⟨x, hx, rfl⟩)
  have hex : ∃ x ∈ choF k n S, decide (1 + lstT k X d (aftS S x p) = lstT k X (d + 1) S) = true := by
    rcases hatt with h | h
    · exfalso
      have := htop.2.2
      omega
    · obtain ⟨x, hx, he⟩ := List.mem_map.1 h
      exact ⟨x, hx, by simpa using he⟩
  have hsame : pickS k n X d S p = pickP k X d S p := by
    unfold pickS pickP choS
    rw [hb, choF_eight hn hS]
    simp only [Bool.false_eq_true, if_false]
    congr 1
    refine find_same fun x hx => ?_
    have h1 := hall x hx
    have h2 := hm x hx
    rw [h1.1, htop.1, decide_eq_decide]
    omega
  obtain ⟨j, h1, h2, h3, h4⟩ := find_at hex
  have hmem : ∀ i, i ≤ j → nth (choF k n S) i ∈ choF k n S := fun i hi => nth_mem (by omega)
  have hiff : ∀ i, i ≤ j → (1 + lstT k X d (aftS S (nth (choF k n S) i) p) = lstT k X (d + 1) S ↔ i = j) := by
    intro i hi
    constructor
    · intro e
      by_cases hij : i = j
      · exact hij
      · have := h3 i (by omega)
        rw [decide_eq_false_iff_not] at this
        exact absurd e this
    · rintro rfl
      exact of_decide_eq_true h2
  refine ⟨hsame, j, h1, ?_, hiff, ?_⟩
  · unfold pickP
    rw [hb, choF_eight hn hS]
    simp only [Bool.false_eq_true, if_false]
    exact h4
  · intro i hi
    rw [← hiff i hi, (hall _ (hmem i hi)).1, htop.1]
    have := hm _ (hmem i hi)
    omega
/-- the set and the plan behind i places -/
def setL (k : Nat) (X : List Int) : Nat → Nat
  | 0 => 0
  | i + 1 => aftS (setL k X i) (pickP k X (X.length - (i + 1)) (setL k X i) (nth X i).toNat) (nth X i).toNat
def planL (k : Nat) (X : List Int) : Nat → List Int
  | 0 => []
  | i + 1 => planL k X i ++ [pickP k X (X.length - (i + 1)) (setL k X i) (nth X i).toNat]
theorem planL_length (k : Nat) (X : List Int) : ∀ i, (planL k X i).length = i
  | 0 => rfl
  | i + 1 => by rw [planL, List.length_append, planL_length k X i]; rfl
theorem setL_in {k n : Nat} {X : List Int} (hn : n ≤ 8) (h0 : 0 < k) (hX : pagesB n X) : ∀ {i : Nat}, i ≤ X.length → setL k X i < 2 ^ n ∧ szS (setL k X i) ≤ k
  | 0, _ => ⟨Nat.two_pow_pos n, by show szS 0 ≤ k; rw [show szS 0 = 0 by decide]; omega⟩
  | i + 1, hi => by
    obtain ⟨h1, h2⟩ := setL_in hn h0 hX (i := i) (by omega)
    have hr := hX i (by omega)
    have hpn : (nth X i).toNat < n := by omega
    rw [setL]
    cases hb : (setL k X i).testBit (nth X i).toNat with
    | true =>
      rw [(pick_hit (n := n) hb).2, aft_hit hn h1 hpn hb]
      exact ⟨h1, h2⟩
    | false =>
      have hix : X.length - (X.length - (i + 1) + 1) = i := by omega
      obtain ⟨_, j, hj, he, _⟩ := pick_miss (d := X.length - (i + 1)) hn h0 hX (by omega) h1 h2 (by rw [hix]; exact hb)
      rw [hix] at he
      rw [he]
      exact ⟨aft_lt h1 hpn, aft_sz hn h1 hpn h2 (nth_mem hj)⟩
end Go.Proofs.YtdohjmbhgjfcaaaDoor
