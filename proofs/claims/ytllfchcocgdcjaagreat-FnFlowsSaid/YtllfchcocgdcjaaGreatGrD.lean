/- Several texts in one: MovP CfgP Has OrdP MatP Tbl Cfg. -/
import Derived.Test.YtllfchcocgdcjaaGreatGrB
import Derived.Test.YtllfchcocgdcjaaGreatGrC
import Derived.Test.YtllfchcocgdcjaaGreatGrA
/- Plain words on configurations of servers: costs of matchings, which are least over all orders, and the laws of a distance. -/
namespace Go.Proofs.YtllfchcocgdcjaaGreat
open Go.RowKit

--PURE
/-- the sum of the distances of two lists, place by place -/
def costL (M : List (List Int)) : List Int → List Int → Int
  | x :: a, y :: b => cell M x.toNat y.toNat + costL M a b
  | _, _ => 0
theorem costL_nil (M : List (List Int)) (b : List Int) : costL M [] b = 0 := by cases b <;> rfl
theorem costL_perm {M : List (List Int)} {a a' : List Int} (p : a.Perm a') : ∀ b : List Int, b.length = a.length → ∃ b', b'.Perm b ∧ costL M a' b' = costL M a b := by
  induction p with
  | nil => intro b _; exact ⟨b, List.Perm.refl _, rfl⟩
  | cons x p ih =>
    intro b hb
    cases b with
    | nil => simp at hb
    | cons y b =>
      obtain ⟨b', h1, h2⟩ := ih b (by simpa using hb)
      exact ⟨y :: b', h1.cons y, by simp only [costL]; omega⟩
  | swap x y l =>
    intro b hb
    match b, hb with
    | u :: v :: b, _ => exact ⟨v :: u :: b, List.Perm.swap _ _ _, by simp only [costL]; omega⟩
  | trans p q ih1 ih2 =>
    intro b hb
    obtain ⟨b1, h1, h2⟩ := ih1 b hb
    obtain ⟨b2, h3, h4⟩ := ih2 b1 (by rw [h1.length_eq, hb, p.length_eq])
    exact ⟨b2, h3.trans h1, by omega⟩
theorem costL_symm {M : List (List Int)} {n : Nat} (hs : ∀ x y, x < n → y < n → cell M x y = cell M y x) : ∀ (a b : List Int), a.length = b.length → (∀ x ∈ a, 0 ≤ x ∧ x < (n : Int)) → (∀ x ∈ b, 0 ≤ x ∧ x < (n : Int)) → costL M a b = costL M b a
  | [], b, h, _, _ => by
    have : b = [] := List.eq_nil_of_length_eq_zero (by simpa using h.symm)
    subst this; rfl
  | x :: a, [], h, _, _ => by simp at h
  | x :: a, y :: b, h, ha, hb => by
    have h1 := ha x (by simp)
    have h2 := hb y (by simp)
    simp only [costL]
    rw [costL_symm hs a b (by simpa using h) (fun z hz => ha z (by simp [hz])) (fun z hz => hb z (by simp [hz])), hs x.toNat y.toNat (by omega) (by omega)]
theorem costL_tri {M : List (List Int)} {n : Nat} (ht : ∀ x y z, x < n → y < n → z < n → cell M x z ≤ cell M x y + cell M y z) : ∀ (a b c : List Int), a.length = b.length → b.length = c.length → (∀ x ∈ a, 0 ≤ x ∧ x < (n : Int)) → (∀ x ∈ b, 0 ≤ x ∧ x < (n : Int)) → (∀ x ∈ c, 0 ≤ x ∧ x < (n : Int)) →
    costL M a c ≤ costL M a b + costL M b c
  | [], b, c, _, _, _, _, _ => by
    have e : b = [] := List.eq_nil_of_length_eq_zero (by simp_all)
    subst e
    have e : c = [] := List.eq_nil_of_length_eq_zero (by simp_all)
    subst e
    simp [costL]
  | x :: a, [], c, h, _, _, _, _ => by simp at h
  | x :: a, y :: b, [], _, h, _, _, _ => by simp at h
  | x :: a, y :: b, z :: c, h, k, ha, hb, hc => by
    have h1 := ha x (by simp)
    have h2 := hb y (by simp)
    have h3 := hc z (by simp)
    have ih := costL_tri ht a b c (by simpa using h) (by simpa using k) (fun z hz => ha z (by simp [hz])) (fun z hz => hb z (by simp [hz])) (fun z hz => hc z (by simp [hz]))
    have := ht x.toNat y.toNat z.toNat (by omega) (by omega) (by omega)
    simp only [costL]
    omega
theorem costL_self {M : List (List Int)} {n : Nat} (hd : ∀ x, x < n → cell M x x = 0) : ∀ (a : List Int), (∀ x ∈ a, 0 ≤ x ∧ x < (n : Int)) → costL M a a = 0
  | [], _ => rfl
  | x :: a, ha => by
    have h1 := ha x (by simp)
    simp only [costL]
    rw [hd x.toNat (by omega), costL_self hd a fun z hz => ha z (by simp [hz])]
    rfl
theorem costL_in {M : List (List Int)} {n : Nat} {D : Int} (h : ∀ x y, x < n → y < n → 0 ≤ cell M x y ∧ cell M x y ≤ D) : ∀ (a b : List Int), a.length = b.length → (∀ x ∈ a, 0 ≤ x ∧ x < (n : Int)) → (∀ x ∈ b, 0 ≤ x ∧ x < (n : Int)) → 0 ≤ costL M a b ∧ costL M a b ≤ D * a.length
  | [], b, _, _, _ => by rw [costL_nil]; simp
  | x :: a, [], k, _, _ => by simp at k
  | x :: a, y :: b, k, ha, hb => by
    have h1 := ha x (by simp)
    have h2 := hb y (by simp)
    have ih := costL_in h a b (by simpa using k) (fun z hz => ha z (by simp [hz])) (fun z hz => hb z (by simp [hz]))
    have := h x.toNat y.toNat (by omega) (by omega)
    simp only [costL, List.length_cons]
    rw [Int.natCast_add, Int.mul_add]
    omega
theorem costL_nonneg {M : List (List Int)} {n : Nat} (h : ∀ x y, x < n → y < n → 0 ≤ cell M x y) : ∀ (a b : List Int), (∀ x ∈ a, 0 ≤ x ∧ x < (n : Int)) → (∀ x ∈ b, 0 ≤ x ∧ x < (n : Int)) → 0 ≤ costL M a b
  | [], b, _, _ => by rw [costL_nil]; exact Int.le_refl _
  | x :: a, [], _, _ => by simp [costL]
  | x :: a, y :: b, ha, hb => by
    have h1 := ha x (by simp)
    have h2 := hb y (by simp)
    have h3 := h x.toNat y.toNat (by omega) (by omega)
    have := costL_nonneg h a b (fun z hz => ha z (by simp [hz])) (fun z hz => hb z (by simp [hz]))
    simp only [costL]
    omega
theorem costL_zero {M : List (List Int)} {n : Nat} (h : ∀ x y, x < n → y < n → 0 ≤ cell M x y) (hz : ∀ x y, x < n → y < n → cell M x y = 0 → x = y) : ∀ (a b : List Int), a.length = b.length → (∀ x ∈ a, 0 ≤ x ∧ x < (n : Int)) → (∀ x ∈ b, 0 ≤ x ∧ x < (n : Int)) → costL M a b ≤ 0 → a = b
  | [], b, k, _, _, _ => (List.eq_nil_of_length_eq_zero (by simpa using k.symm)).symm
  | x :: a, [], k, _, _, _ => by simp at k
  | x :: a, y :: b, k, ha, hb, hc => by
    have h1 := ha x (by simp)
    have h2 := hb y (by simp)
    have h3 := h x.toNat y.toNat (by omega) (by omega)
    have hpos := costL_nonneg h a b (fun z hz => ha z (by simp [hz])) (fun z hz => hb z (by simp [hz]))
    simp only [costL] at hc
    have ih := costL_zero h hz a b (by simpa using k) (fun z hz => ha z (by simp [hz])) (fun z hz => hb z (by simp [hz])) (by omega)
    have e := hz x.toNat y.toNat (by omega) (by omega) (by omega)
    have e2 : x = y := by omega
    rw [e2, ih]

/-! the orders of the numbers below k -/
def nextO (l : List Int) (m : Nat) : List (List Int) := ((List.range m).filter fun i : Nat => !decide ((i : Int) ∈ l)).map fun i : Nat => l ++ [(i : Int)]
def ordTo (k : Nat) : Nat → List (List Int)
  | 0 => [[]]
  | j + 1 => (ordTo k j).flatMap fun l => nextO l k
def ordL (k : Nat) : List (List Int) := ordTo k k
theorem nextO_succ_yes {m : Nat} {l : List Int} (h : (m : Int) ∉ l) : nextO l (m + 1) = nextO l m ++ [l ++ [(m : Int)]] := by
  simp [nextO, List.range_succ, List.filter_append, h]
theorem nextO_succ_no {m : Nat} {l : List Int} (h : (m : Int) ∈ l) : nextO l (m + 1) = nextO l m := by
  simp [nextO, List.range_succ, List.filter_append, h]
theorem ordTo_mem {k : Nat} : ∀ {j : Nat} {l : List Int}, l ∈ ordTo k j ↔ l.length = j ∧ l.Nodup ∧ ∀ x ∈ l, 0 ≤ x ∧ x < (k : Int)
  | 0, l => by
    simp only [ordTo, List.mem_singleton]
    constructor
    · rintro rfl; simp
    · rintro ⟨h, _⟩; exact List.eq_nil_of_length_eq_zero h
  | j + 1, l => by
    simp only [ordTo, List.mem_flatMap, nextO, List.mem_map, List.mem_filter, List.mem_range]
    constructor
    · rintro ⟨l0, h0, i, ⟨hi, hn⟩, rfl⟩
      obtain ⟨h1, h2, h3⟩ := ordTo_mem.1 h0
      have hn' : (i : Int) ∉ l0 := by simpa using hn
      refine ⟨by simp [h1], ?_, fun x hx => ?_⟩
      · rw [List.nodup_append]
        refine ⟨h2, by simp, fun a ha b hb => ?_⟩
        rw [List.mem_singleton] at hb
        rw [hb]
        intro e
        exact hn' (e ▸ ha)
      · rcases List.mem_append.1 hx with h | h
        · exact h3 x h
        · rw [List.mem_singleton] at h; omega
    · rintro ⟨h1, h2, h3⟩
      obtain ⟨l0, x, rfl⟩ : ∃ l0 x, l = l0 ++ [x] := ⟨l.dropLast, l.getLast (by intro e; rw [e] at h1; simp at h1), (List.dropLast_concat_getLast _).symm⟩
      rw [List.nodup_append] at h2
      have hx := h3 x (by simp)
      refine ⟨l0, ordTo_mem.2 ⟨by simpa using h1, h2.1, fun y hy => h3 y (by simp [hy])⟩, x.toNat, ⟨by omega, ?_⟩, by rw [Int.toNat_of_nonneg hx.1]⟩
      rw [Int.toNat_of_nonneg hx.1]
      simp only [Bool.not_eq_true', decide_eq_false_iff_not]
      intro hm
      exact h2.2.2 x hm x (by simp) rfl
theorem ordL_mem {k : Nat} {l : List Int} : l ∈ ordL k ↔ l.length = k ∧ l.Nodup ∧ ∀ x ∈ l, 0 ≤ x ∧ x < (k : Int) := ordTo_mem
def idL (k : Nat) : List Int := (List.range k).map fun i : Nat => (i : Int)
theorem idL_mem {k : Nat} {x : Int} : x ∈ idL k ↔ 0 ≤ x ∧ x < (k : Int) := by
  simp only [idL, List.mem_map, List.mem_range]
  constructor
  · rintro ⟨i, hi, rfl⟩; omega
  · intro h; exact ⟨x.toNat, by omega, by omega⟩
theorem idL_nodup (k : Nat) : (idL k).Nodup := by
  rw [idL, List.nodup_iff_pairwise_ne, List.pairwise_map]
  exact (List.nodup_iff_pairwise_ne.1 List.nodup_range).imp (fun h => by omega)
theorem perm_of_sub : ∀ {l m : List Int}, l.Nodup → (∀ x ∈ l, x ∈ m) → m.length ≤ l.length → l.Perm m
  | [], m, _, _, h => by
    have : m = [] := List.eq_nil_of_length_eq_zero (by simpa using h)
    rw [this]
  | x :: l, m, h, hs, hl => by
    rw [List.nodup_cons] at h
    have hx := hs x (by simp)
    have p := List.perm_cons_erase hx
    have hlen := p.length_eq
    simp only [List.length_cons] at hlen hl
    refine ((perm_of_sub h.2 (m := m.erase x) (fun y hy => ?_) (by omega)).cons x).trans p.symm
    have hne : y ≠ x := fun e => h.1 (e ▸ hy)
    exact (List.mem_erase_of_ne hne).2 (hs y (by simp [hy]))
/-- as many different numbers below k as k: all of them -/
theorem ord_perm {k : Nat} {l : List Int} (h : l ∈ ordL k) : l.Perm (idL k) := by
  obtain ⟨h1, h2, h3⟩ := ordL_mem.1 h
  exact perm_of_sub h2 (fun x hx => idL_mem.2 (h3 x hx)) (by simp [idL, h1])
theorem perm_ord {k : Nat} {l : List Int} (h : l.Perm (idL k)) : l ∈ ordL k :=
  ordL_mem.2 ⟨by rw [h.length_eq]; simp [idL], h.nodup_iff.2 (idL_nodup k), fun x hx => idL_mem.1 (h.mem_iff.1 hx)⟩
/-- what an order picks out of a list -/
def pickL (b l : List Int) : List Int := l.map fun i => nth b i.toNat
theorem pickL_id (b : List Int) : pickL b (idL b.length) = b := by
  refine eq_of_nth (by simp [pickL, idL]) fun j hj => ?_
  have hj' : j < b.length := by simpa [pickL, idL] using hj
  simp [pickL, idL, nth, hj']
theorem pick_perm {b l : List Int} (h : l ∈ ordL b.length) : (pickL b l).Perm b := by
  have h1 := (ord_perm h).map (fun i => nth b i.toNat)
  have h2 : pickL b (idL b.length) = b := pickL_id b
  unfold pickL at h2
  rw [h2] at h1
  exact h1
theorem map_perm_inv {α β : Type} (f : α → β) {b' c : List β} (p : c.Perm b') : ∀ l : List α, b' = l.map f → ∃ l' : List α, l'.Perm l ∧ c = l'.map f := by
  induction p with
  | nil => intro l h; exact ⟨[], by have : l = [] := by simpa using h.symm
                                    rw [this], rfl⟩
  | cons x p ih =>
    intro l h
    cases l with
    | nil => simp at h
    | cons y l =>
      simp only [List.map_cons, List.cons.injEq] at h
      obtain ⟨l', h1, h2⟩ := ih l h.2
      exact ⟨y :: l', h1.cons y, by rw [List.map_cons, h.1, h2]⟩
  | swap x y l0 =>
    intro l h
    match l, h with
    | u :: v :: l, h =>
      simp only [List.map_cons, List.cons.injEq] at h
      exact ⟨v :: u :: l, List.Perm.swap _ _ _, by simp [h.1, h.2.1, h.2.2]⟩
    | [], h => simp at h
    | [u], h => simp at h
  | trans p q ih1 ih2 =>
    intro l h
    obtain ⟨l1, h1, h2⟩ := ih2 l h
    obtain ⟨l2, h3, h4⟩ := ih1 l1 h2
    exact ⟨l2, h3.trans h1, h4⟩
theorem perm_pick {b c : List Int} (h : c.Perm b) : ∃ l, l ∈ ordL b.length ∧ c = pickL b l := by
  obtain ⟨l, h1, h2⟩ := map_perm_inv (fun i : Int => nth b i.toNat) h (idL b.length) (pickL_id b).symm
  exact ⟨l, perm_ord h1, h2⟩
theorem ordL_ne (k : Nat) : idL k ∈ ordL k := perm_ord (List.Perm.refl _)

/-! the first of the least -/
/-- the place and the value of the first least one of the first j, behind F -/
def bestTo (f : List Int → Int) (P : List (List Int)) (F : Int) : Nat → List Int × Int
  | 0 => ([], F)
  | j + 1 => if f (row P j) < (bestTo f P F j).2 then (row P j, f (row P j)) else bestTo f P F j
theorem bestTo_spec {f : List Int → Int} {P : List (List Int)} {F : Int} (hF : ∀ p ∈ P, f p < F) : ∀ {j : Nat}, 0 < j → j ≤ P.length →
    (bestTo f P F j).1 ∈ P ∧ (bestTo f P F j).2 = f (bestTo f P F j).1 ∧ ∀ i, i < j → (bestTo f P F j).2 ≤ f (row P i)
  | 0, h, _ => by omega
  | j + 1, _, h => by
    rw [bestTo]
    have hj := row_mem (xss := P) (k := j) (by omega)
    by_cases hlt : f (row P j) < (bestTo f P F j).2
    · rw [if_pos hlt]
      refine ⟨hj, rfl, fun i hi => ?_⟩
      by_cases e : i = j
      · rw [e]; exact Int.le_refl _
      · have := (bestTo_spec hF (j := j) (by omega) (by omega)).2.2 i (by omega)
        show f (row P j) ≤ _
        omega
    · rw [if_neg hlt]
      rcases Nat.eq_zero_or_pos j with h0 | h0
      · subst h0
        exact absurd (hF _ hj) hlt
      · have ih := bestTo_spec hF (j := j) h0 (by omega)
        refine ⟨ih.1, ih.2.1, fun i hi => ?_⟩
        by_cases e : i = j
        · rw [e]; omega
        · exact ih.2.2 i (by omega)

/-- the cost of an order -/
def ordC (M : List (List Int)) (a b l : List Int) : Int := costL M a (pickL b l)
def matL (M : List (List Int)) (a b : List Int) : List Int := (bestTo (ordC M a b) (ordL a.length) 1073741824 (ordL a.length).length).1
def mvC (M : List (List Int)) (a b : List Int) : Int := (bestTo (ordC M a b) (ordL a.length) 1073741824 (ordL a.length).length).2
/-- a list of points below n -/
def Pts (n : Nat) (a : List Int) : Prop := ∀ x ∈ a, 0 ≤ x ∧ x < (n : Int)
theorem Pts.perm {n : Nat} {a b : List Int} (h : Pts n b) (p : a.Perm b) : Pts n a := fun x hx => h x (p.mem_iff.1 hx)
/-- what a metric gives -/
structure Dst (M : List (List Int)) (n : Nat) : Prop where
  pos : ∀ x y, x < n → y < n → 0 ≤ cell M x y ∧ cell M x y ≤ 99
  self : ∀ x, x < n → cell M x x = 0
  zero : ∀ x y, x < n → y < n → cell M x y = 0 → x = y
  symm : ∀ x y, x < n → y < n → cell M x y = cell M y x
  tri : ∀ x y z, x < n → y < n → z < n → cell M x z ≤ cell M x y + cell M y z
theorem mvC_min {M : List (List Int)} {n : Nat} (hd : Dst M n) {a b : List Int} (ha : Pts n a) (hb : Pts n b) (hl : a.length = b.length) (h3 : a.length ≤ 1000) :
    (∃ c, c.Perm b ∧ mvC M a b = costL M a c) ∧ (∀ c, c.Perm b → mvC M a b ≤ costL M a c) ∧ matL M a b ∈ ordL a.length ∧ mvC M a b = ordC M a b (matL M a b) := by
  have hne : 0 < (ordL a.length).length := List.length_pos_of_mem (ordL_ne a.length)
  have hF : ∀ p ∈ ordL a.length, ordC M a b p < 1073741824 := fun p hp => by
    have hpp := pick_perm (b := b) (hl ▸ hp)
    have := (costL_in (D := 99) hd.pos a (pickL b p) (by rw [hpp.length_eq, hl]) ha (hb.perm hpp)).2
    unfold ordC
    omega
  obtain ⟨h1, h2, h4⟩ := bestTo_spec hF hne (Nat.le_refl _)
  refine ⟨⟨pickL b (matL M a b), pick_perm (hl ▸ h1), h2⟩, fun c hc => ?_, h1, h2⟩
  obtain ⟨l, hl1, rfl⟩ := perm_pick hc
  rw [← hl] at hl1
  obtain ⟨i, hi, e⟩ := mem_iff_row.1 hl1
  have := h4 i hi
  rw [e] at this
  exact this
theorem mvC_permL {M : List (List Int)} {n : Nat} (hd : Dst M n) {a a' b : List Int} (p : a.Perm a') (ha : Pts n a) (hb : Pts n b) (hl : a.length = b.length) (h3 : a.length ≤ 1000) : mvC M a' b = mvC M a b := by
  have h1 := mvC_min hd ha hb hl h3
  have h2 := mvC_min hd (ha.perm p.symm) hb (by rw [← p.length_eq, hl]) (by rw [← p.length_eq]; exact h3)
  obtain ⟨c, hc1, hc2⟩ := h1.1
  obtain ⟨c', hc3, hc4⟩ := h2.1
  obtain ⟨e, he1, he2⟩ := costL_perm (M := M) p c (by rw [hc1.length_eq, hl])
  obtain ⟨e', he3, he4⟩ := costL_perm (M := M) p.symm c' (by rw [hc3.length_eq, ← p.length_eq, hl])
  have h5 := h2.2.1 e (he1.trans hc1)
  have h6 := h1.2.1 e' (he3.trans hc3)
  omega
theorem mvC_permR {M : List (List Int)} {n : Nat} (hd : Dst M n) {a b b' : List Int} (p : b.Perm b') (ha : Pts n a) (hb : Pts n b) (hl : a.length = b.length) (h3 : a.length ≤ 1000) : mvC M a b' = mvC M a b := by
  have h1 := mvC_min hd ha hb hl h3
  have h2 := mvC_min hd ha (hb.perm p.symm) (by rw [← p.length_eq, hl]) h3
  obtain ⟨c, hc1, hc2⟩ := h1.1
  obtain ⟨c', hc3, hc4⟩ := h2.1
  have h5 := h2.2.1 c (hc1.trans p)
  have h6 := h1.2.1 c' (hc3.trans p.symm)
  omega
theorem mvC_symm {M : List (List Int)} {n : Nat} (hd : Dst M n) {a b : List Int} (ha : Pts n a) (hb : Pts n b) (hl : a.length = b.length) (h3 : a.length ≤ 1000) : mvC M b a = mvC M a b := by
  have key : ∀ a b : List Int, Pts n a → Pts n b → a.length = b.length → a.length ≤ 1000 → mvC M b a ≤ mvC M a b := by
    intro a b ha hb hl h3
    have h1 := mvC_min hd ha hb hl h3
    have h2 := mvC_min hd hb ha hl.symm (hl ▸ h3)
    obtain ⟨c, hc1, hc2⟩ := h1.1
    have e := costL_symm hd.symm a c (by rw [hc1.length_eq, hl]) ha (hb.perm hc1)
    obtain ⟨a', p1, p2⟩ := costL_perm (M := M) hc1 a (by rw [hc1.length_eq, hl])
    have := h2.2.1 a' p1
    omega
  have h1 := key a b ha hb hl h3
  have h2 := key b a hb ha hl.symm (hl ▸ h3)
  omega
theorem mvC_tri {M : List (List Int)} {n : Nat} (hd : Dst M n) {a b c : List Int} (ha : Pts n a) (hb : Pts n b) (hc : Pts n c) (hl : a.length = b.length) (hl2 : b.length = c.length) (h3 : a.length ≤ 1000) : mvC M a c ≤ mvC M a b + mvC M b c := by
  obtain ⟨b', p1, e1⟩ := (mvC_min hd ha hb hl h3).1
  obtain ⟨c', p2, e2⟩ := (mvC_min hd hb hc hl2 (hl ▸ h3)).1
  obtain ⟨c2, p3, e3⟩ := costL_perm (M := M) p1.symm c' (by rw [p2.length_eq, hl2])
  have h1 := (mvC_min hd ha hc (hl.trans hl2) h3).2.1 c2 (p3.trans p2)
  have h2 := costL_tri hd.tri a b' c2 (by rw [p1.length_eq, hl]) (by rw [p1.length_eq, p3.length_eq, p2.length_eq, hl2]) ha (hb.perm p1) (hc.perm (p3.trans p2))
  omega
theorem mvC_in {M : List (List Int)} {n : Nat} (hd : Dst M n) {a b : List Int} (ha : Pts n a) (hb : Pts n b) (hl : a.length = b.length) (h3 : a.length ≤ 1000) : 0 ≤ mvC M a b ∧ mvC M a b ≤ 99 * a.length := by
  obtain ⟨b', p1, e1⟩ := (mvC_min hd ha hb hl h3).1
  have := costL_in (D := 99) hd.pos a b' (by rw [p1.length_eq, hl]) ha (hb.perm p1)
  omega
theorem mvC_zero {M : List (List Int)} {n : Nat} (hd : Dst M n) {a b : List Int} (ha : Pts n a) (hb : Pts n b) (hl : a.length = b.length) (h3 : a.length ≤ 1000) : mvC M a b = 0 ↔ a.Perm b := by
  constructor
  · intro h
    obtain ⟨b', p1, e1⟩ := (mvC_min hd ha hb hl h3).1
    have := costL_zero (fun x y hx hy => (hd.pos x y hx hy).1) hd.zero a b' (by rw [p1.length_eq, hl]) ha (hb.perm p1) (by omega)
    rw [this]; exact p1
  · intro p
    have h1 := (mvC_min hd ha hb hl h3).2.1 a p
    have h2 := mvC_in hd ha hb hl h3
    have h4 := costL_self hd.self a ha
    omega
/-- one point moved -/
theorem costL_set {M : List (List Int)} {n : Nat} (hd : Dst M n) : ∀ {a b : List Int} {s : Nat} {r : Int}, Pts n a → Pts n b → a.length = b.length → s < a.length → nth b s = r → costL M a b = cell M (nth a s).toNat r.toNat + costL M (a.set s r) b
  | [], b, s, r, _, _, _, h, _ => by simp at h
  | x :: a, [], s, r, _, _, h, _, _ => by simp at h
  | x :: a, y :: b, 0, r, ha, hb, hl, h, e => by
    have e' : y = r := e
    subst e'
    have h1 := hb y (by simp)
    have := hd.self y.toNat (by omega)
    show cell M x.toNat y.toNat + costL M a b = cell M x.toNat y.toNat + (cell M y.toNat y.toNat + costL M a b)
    omega
  | x :: a, y :: b, s + 1, r, ha, hb, hl, h, e => by
    have ih := costL_set hd (a := a) (b := b) (s := s) (r := r) (fun z hz => ha z (by simp [hz])) (fun z hz => hb z (by simp [hz])) (by simpa using hl) (by simpa using h) e
    show cell M x.toNat y.toNat + costL M a b = cell M (nth a s).toNat r.toNat + (cell M x.toNat y.toNat + costL M (a.set s r) b)
    omega
theorem costL_set1 {M : List (List Int)} {n : Nat} (hd : Dst M n) : ∀ {a : List Int} {s : Nat} {r : Int}, Pts n a → (0 ≤ r ∧ r < (n : Int)) → s < a.length → costL M a (a.set s r) = cell M (nth a s).toNat r.toNat
  | [], s, r, _, _, h => by simp at h
  | x :: a, 0, r, ha, hr, _ => by
    show cell M x.toNat r.toNat + costL M a a = _
    rw [costL_self hd.self a fun z hz => ha z (by simp [hz])]
    show cell M x.toNat r.toNat + 0 = cell M x.toNat r.toNat
    omega
  | x :: a, s + 1, r, ha, hr, h => by
    have ih := costL_set1 hd (a := a) (s := s) (fun z hz => ha z (by simp [hz])) hr (by simpa using h)
    have h1 := ha x (by simp)
    have := hd.self x.toNat (by omega)
    show cell M x.toNat x.toNat + costL M a (a.set s r) = cell M (nth a s).toNat r.toNat
    omega
theorem Pts.set {n : Nat} {a : List Int} {s : Nat} {r : Int} (h : Pts n a) (hr : 0 ≤ r ∧ r < (n : Int)) : Pts n (a.set s r) := fun x hx => by
  rcases List.mem_or_eq_of_mem_set hx with h1 | h1
  · exact h x h1
  · rw [h1]; exact hr
theorem mvC_set {M : List (List Int)} {n : Nat} (hd : Dst M n) {a : List Int} {s : Nat} {r : Int} (ha : Pts n a) (hr : 0 ≤ r ∧ r < (n : Int)) (hs : s < a.length) (h3 : a.length ≤ 1000) : mvC M a (a.set s r) ≤ cell M (nth a s).toNat r.toNat := by
  rw [← costL_set1 hd ha hr hs]
  exact (mvC_min hd ha (ha.set hr) (by simp) h3).2.1 _ (List.Perm.refl _)
/-- a move to a list with a point: one comes to this point -/
theorem mvC_via {M : List (List Int)} {n : Nat} (hd : Dst M n) {a b : List Int} {r : Int} (ha : Pts n a) (hb : Pts n b) (hl : a.length = b.length) (h3 : a.length ≤ 1000) (hr : r ∈ b) : ∃ s, s < a.length ∧ cell M (nth a s).toNat r.toNat + mvC M (a.set s r) b ≤ mvC M a b := by
  obtain ⟨c, p1, e1⟩ := (mvC_min hd ha hb hl h3).1
  obtain ⟨s, hs, e⟩ := mem_iff_nth.1 (p1.mem_iff.2 hr)
  rw [p1.length_eq, ← hl] at hs
  have hrr := hb r hr
  have h1 := costL_set hd ha (hb.perm p1) (by rw [p1.length_eq, hl]) hs e
  have h2 := (mvC_min hd (ha.set (s := s) hrr) hb (by simpa using hl) (by simpa using h3)).2.1 c p1
  exact ⟨s, hs, by omega⟩
end Go.Proofs.YtllfchcocgdcjaaGreat

/- Plain words on the configurations of servers: all of them, in order. -/
namespace Go.Proofs.YtllfchcocgdcjaaGreat
open Go.RowKit

--PURE
def confs (n : Nat) : Nat → Nat → List (List Int)
  | 0, _ => [[]]
  | k + 1, f => (List.range' f (n - f)).flatMap fun x => (confs n k x).map (List.cons (x : Int))
/-- those that begin with a point from f on, ahead of x -/
def cfTo (n k f x : Nat) : List (List Int) := (List.range' f (x - f)).flatMap fun y => (confs n k y).map (List.cons (y : Int))
theorem confs_succ (n k f : Nat) : confs n (k + 1) f = cfTo n k f n := rfl
theorem cfTo_zero (n k f : Nat) : cfTo n k f f = [] := by simp [cfTo]
theorem cfTo_succ {n k f x : Nat} (h : f ≤ x) : cfTo n k f (x + 1) = cfTo n k f x ++ (confs n k x).map (List.cons (x : Int)) := by
  have e : x + 1 - f = (x - f) + 1 := by omega
  rw [cfTo, e, List.range'_concat, List.flatMap_append, cfTo]
  simp only [List.flatMap_cons, List.flatMap_nil, List.append_nil, Nat.one_mul]
  rw [show f + (x - f) = x by omega]
theorem cfTo_row {n k f x j : Nat} (hj : j < (confs n k x).length) : cfTo n k f x ++ ((confs n k x).take (j + 1)).map (List.cons (x : Int)) = (cfTo n k f x ++ ((confs n k x).take j).map (List.cons (x : Int))) ++ [(x : Int) :: row (confs n k x) j] := by
  rw [take_succ_row hj, List.map_append, List.append_assoc]
  rfl
theorem confs_mem {n : Nat} : ∀ {k f : Nat} {c : List Int}, c ∈ confs n k f → c.length = k ∧ ∀ x ∈ c, (f : Int) ≤ x ∧ x < (n : Int)
  | 0, f, c, h => by
    simp only [confs, List.mem_singleton] at h
    rw [h]; simp
  | k + 1, f, c, h => by
    simp only [confs, List.mem_flatMap, List.mem_range'_1, List.mem_map] at h
    obtain ⟨y, hy, c0, h0, rfl⟩ := h
    obtain ⟨h1, h2⟩ := confs_mem h0
    refine ⟨by simp [h1], fun x hx => ?_⟩
    rcases List.mem_cons.1 hx with rfl | hx
    · omega
    · have := h2 x hx; omega
theorem flat_len {α β : Type} (g : α → List β) (c : Nat) : ∀ l : List α, (∀ x ∈ l, (g x).length ≤ c) → (l.flatMap g).length ≤ l.length * c
  | [], _ => by simp
  | x :: l, h => by
    have h1 := h x (by simp)
    have h2 := flat_len g c l (fun y hy => h y (by simp [hy]))
    simp only [List.flatMap_cons, List.length_append, List.length_cons, Nat.add_mul, Nat.one_mul]
    omega
theorem confs_len {n : Nat} (hn : n ≤ 6) : ∀ (k f : Nat), (confs n k f).length ≤ 6 ^ k
  | 0, _ => by simp [confs]
  | k + 1, f => by
    have := flat_len (fun x : Nat => (confs n k x).map (List.cons (x : Int))) (6 ^ k) (List.range' f (n - f)) (fun x _ => by rw [List.length_map]; exact confs_len hn k x)
    rw [List.length_range'] at this
    have h2 : (n - f) * 6 ^ k ≤ 6 * 6 ^ k := Nat.mul_le_mul_right _ (by omega)
    rw [Nat.pow_succ, Nat.mul_comm (6 ^ k) 6]
    exact Nat.le_trans this h2
theorem cfTo_len {n k f x : Nat} (hn : n ≤ 6) (hx : x ≤ n) : (cfTo n k f x).length ≤ 6 * 6 ^ k := by
  have := flat_len (fun x : Nat => (confs n k x).map (List.cons (x : Int))) (6 ^ k) (List.range' f (x - f)) (fun x _ => by rw [List.length_map]; exact confs_len hn k x)
  rw [List.length_range'] at this
  exact Nat.le_trans this (Nat.mul_le_mul_right _ (by omega))
/-- what holds of a configuration -/
def Asc (c : List Int) : Prop := c.Pairwise (· ≤ ·)
theorem confs_iff {n : Nat} : ∀ {k f : Nat} {c : List Int}, c ∈ confs n k f ↔ c.length = k ∧ Asc c ∧ ∀ x ∈ c, (f : Int) ≤ x ∧ x < (n : Int)
  | 0, f, c => by
    simp only [confs, List.mem_singleton]
    constructor
    · rintro rfl; exact ⟨rfl, List.Pairwise.nil, by simp⟩
    · rintro ⟨h, _⟩; exact List.eq_nil_of_length_eq_zero h
  | k + 1, f, c => by
    simp only [confs, List.mem_flatMap, List.mem_range'_1, List.mem_map]
    constructor
    · rintro ⟨y, hy, c0, h0, rfl⟩
      obtain ⟨h1, h2, h3⟩ := confs_iff.1 h0
      refine ⟨by simp [h1], List.pairwise_cons.2 ⟨fun x hx => (h3 x hx).1, h2⟩, fun x hx => ?_⟩
      rcases List.mem_cons.1 hx with rfl | hx
      · omega
      · have := h3 x hx; omega
    · rintro ⟨h1, h2, h3⟩
      cases c with
      | nil => simp at h1
      | cons x c =>
        have hx := h3 x (by simp)
        rw [Asc, List.pairwise_cons] at h2
        refine ⟨x.toNat, by omega, c, confs_iff.2 ⟨by simpa using h1, h2.2, fun y hy => ?_⟩, by rw [Int.toNat_of_nonneg (by omega)]⟩
        have := h2.1 y hy
        have := h3 y (by simp [hy])
        omega
theorem pairwise_flat {α β : Type} {R : β → β → Prop} {g : α → List β} : ∀ {l : List α}, (∀ x ∈ l, (g x).Pairwise R) → l.Pairwise (fun x y => ∀ u ∈ g x, ∀ v ∈ g y, R u v) → (l.flatMap g).Pairwise R
  | [], _, _ => by simp
  | x :: l, h1, h2 => by
    rw [List.pairwise_cons] at h2
    rw [List.flatMap_cons, List.pairwise_append]
    refine ⟨h1 x (by simp), pairwise_flat (fun y hy => h1 y (by simp [hy])) h2.2, fun u hu v hv => ?_⟩
    obtain ⟨y, hy, hv⟩ := List.mem_flatMap.1 hv
    exact h2.1 y hy u hu v hv
theorem confs_nodup (n : Nat) : ∀ k f, (confs n k f).Nodup
  | 0, _ => by simp [confs]
  | k + 1, f => by
    rw [confs, List.nodup_iff_pairwise_ne]
    refine pairwise_flat (fun x _ => ?_) ?_
    · rw [List.pairwise_map]
      exact (List.nodup_iff_pairwise_ne.1 (confs_nodup n k x)).imp (fun h e => h (List.cons.inj e).2)
    · refine (List.nodup_iff_pairwise_ne.1 (List.nodup_range' (step := 1))).imp (fun {x y} hxy u hu v hv e => ?_)
      obtain ⟨c, _, rfl⟩ := List.mem_map.1 hu
      obtain ⟨d, _, rfl⟩ := List.mem_map.1 hv
      have := (List.cons.inj e).1
      omega
end Go.Proofs.YtllfchcocgdcjaaGreat

/- Whether a list has a number, and where first. -/
namespace Go.Proofs.YtllfchcocgdcjaaGreat
open Go.RowKit

def hasB (xs : List Int) (x : Int) : Bool := decide (x ∈ xs)
theorem hasB_true {xs : List Int} {x : Int} : hasB xs x = true ↔ x ∈ xs := by simp [hasB]
theorem hasB_false {xs : List Int} {x : Int} : hasB xs x = false ↔ x ∉ xs := by simp [hasB]
/-- the place where a number stands first, or -1 -/
def ixOf (xs : List Int) (x : Int) : Int := if x ∈ xs then (xs.idxOf x : Int) else -1
theorem ixOf_at {xs : List Int} {x : Int} {k : Nat} (hk : k < xs.length) (h : nth xs k = x) (hno : ∀ j, j < k → nth xs j ≠ x) : ixOf xs x = k := by
  have hm : x ∈ xs := mem_iff_nth.2 ⟨k, hk, h⟩
  rw [ixOf, if_pos hm]
  have hlt := List.idxOf_lt_length_of_mem hm
  have h1 : nth xs (xs.idxOf x) = x := by
    simp [nth, hlt]
  by_cases h2 : xs.idxOf x < k
  · exact absurd h1 (hno _ h2)
  · by_cases h3 : xs.idxOf x = k
    · rw [h3]
    · exfalso
      have h4 : k < xs.idxOf x := by omega
      have h5 := List.not_of_lt_findIdx (p := fun y => y == x) (xs := xs) (i := k) h4
      have h6 : xs[k]'hk = x := by simpa [nth, hk] using h
      rw [h6] at h5
      simp at h5
theorem ixOf_none {xs : List Int} {x : Int} (h : x ∉ xs) : ixOf xs x = -1 := by rw [ixOf, if_neg h]
theorem ixOf_in {xs : List Int} {x : Int} (h : x ∈ xs) : 0 ≤ ixOf xs x ∧ ixOf xs x < xs.length ∧ nth xs (ixOf xs x).toNat = x := by
  rw [ixOf, if_pos h]
  have hlt := List.idxOf_lt_length_of_mem h
  refine ⟨by omega, by omega, ?_⟩
  simp [nth, hlt]
theorem ixOf_ge {xs : List Int} {x : Int} : decide (0 ≤ ixOf xs x) = hasB xs x := by
  by_cases h : x ∈ xs
  · have := (ixOf_in h).1
    rw [hasB_true.2 h]; simpa using this
  · rw [hasB_false.2 h, ixOf_none h]; rfl

set_option maxHeartbeats 400000 in
set_option maxRecDepth 100000 in
theorem sIndex_any {v : Value} {xs : List Int} {x : Int} {w0 w : World} [Ext w0 w] (hx : IsInts w0 v xs) :
    Calls Tryz.prog 51 #[v, .int .i64 x] w fun e w' => e = .returned (.int .i64 (ixOf xs x)) ∧ w = w' := by
  obtain ⟨a, c, rfl, la⟩ := hx.form
  go_enter Tryz.func51, Tryz.ntmps51
  go_wp2
  go_loop [8] (fun i => ∃ k : Nat, k ≤ xs.length ∧ i = .int .i64 k ∧ Hid (∀ j, j < k → nth xs j ≠ x)) (fun i => xs.length - (intOf i).toNat)
  case atStart => exact ⟨0, by omega, rfl, by intro j hj; omega⟩
  case round =>
    obtain ⟨k, hk, rfl, hno⟩ := hrel
    by_cases hlt : k < xs.length
    · obtain ⟨b, o, rfl, hc⟩ := hx.at (w' := w) hlt
      by_cases he : x = nth xs k
      · have hr := hid (ixOf_at hlt he.symm hno.out)
        have hb : (x == nth xs k) = true := by simp [he]
        replace he := hid he
        go_wp2
        go_ret
        exact ⟨ret_int hr.out.symm, rfl⟩
      · have hb : (x == nth xs k) = false := by simpa using he
        replace he := hid he
        go_wp2
        go_round
        case rel =>
          refine ⟨k + 1, by omega, by go_num, fun j hj => ?_⟩
          by_cases e : j = k
          · rw [e]; exact fun h => he.out h.symm
          · exact hno.out j (by omega)
        case measure => simp [intOf]; omega
    · have hr := hid (show ixOf xs x = -1 from ixOf_none fun h => by
        obtain ⟨j, hj, e⟩ := mem_iff_nth.1 h
        exact hno.out j (by omega) e)
      go_wp2
      go_ret
      exact ⟨ret_int hr.out.symm, rfl⟩

theorem sContains_any {v : Value} {xs : List Int} {x : Int} {w0 w : World} [Ext w0 w] (hx : IsInts w0 v xs) :
    Calls Tryz.prog 27 #[v, .int .i64 x] w fun e w' => e = .returned (.bool (hasB xs x)) ∧ w = w' := by
  have hr := hid (ixOf_ge (xs := xs) (x := x))
  go_enter Tryz.func27, Tryz.ntmps27
  go_wp2_with fail
  refine (sIndex_any (w0 := w0) hx).mono ?_
  rintro e w1 ⟨rfl, rfl⟩
  generalize ixOf xs x = q at *
  go_wp2_with fail
  go_ret
  exact ⟨ret_bool hr.out, rfl⟩

set_option maxHeartbeats 400000 in
set_option maxRecDepth 100000 in
theorem l1Has_any {v : Value} {xs : List Int} {x : Int} {w0 w : World} [Ext w0 w] (hx : IsInts w0 v xs) :
    Calls Tryz.prog 15 #[v, .int .i64 x] w fun e w' => e = .returned (.bool (hasB xs x)) ∧ w = w' := by
  obtain ⟨a, c, rfl, la⟩ := hx.form
  go_enter Tryz.func15, Tryz.ntmps15
  go_wp2
  go_loop [5] (fun i => ∃ k : Nat, k ≤ xs.length ∧ i = .int .i64 k ∧ Hid (∀ j, j < k → nth xs j ≠ x)) (fun i => xs.length - (intOf i).toNat)
  case atStart => exact ⟨0, by omega, rfl, by intro j hj; omega⟩
  case round =>
    obtain ⟨k, hk, rfl, hno⟩ := hrel
    by_cases hlt : k < xs.length
    · obtain ⟨b, o, rfl, hc⟩ := hx.at (w' := w) hlt
      by_cases he : nth xs k = x
      · have hr := hid (show hasB xs x = true from hasB_true.2 (mem_iff_nth.2 ⟨k, hlt, he⟩))
        have hb : (nth xs k == x) = true := by simp [he]
        replace he := hid he
        go_wp2
        go_ret
        exact ⟨ret_bool hr.out.symm, rfl⟩
      · have hb : (nth xs k == x) = false := by simpa using he
        replace he := hid he
        go_wp2
        go_round
        case rel =>
          refine ⟨k + 1, by omega, by go_num, fun j hj => ?_⟩
          by_cases e : j = k
          · rw [e]; exact he.out
          · exact hno.out j (by omega)
        case measure => simp [intOf]; omega
    · have hr := hid (show hasB xs x = false from hasB_false.2 fun h => by
        obtain ⟨j, hj, e⟩ := mem_iff_nth.1 h
        exact hno.out j (by omega) e)
      go_wp2
      go_ret
      exact ⟨ret_bool hr.out.symm, rfl⟩
end Go.Proofs.YtllfchcocgdcjaaGreat

/- Plain words on how lists of orders and of configurations grow. -/
namespace Go.Proofs.YtllfchcocgdcjaaGreat
open Go.RowKit

--PURE
def ordN (k j a : Nat) : List (List Int) := ((ordTo k j).take a).flatMap fun l => nextO l k
theorem ordN_zero (k j : Nat) : ordN k j 0 = [] := by simp [ordN]
theorem ordN_succ {k j a : Nat} (h : a < (ordTo k j).length) : ordN k j (a + 1) = ordN k j a ++ nextO (row (ordTo k j) a) k := by
  rw [ordN, take_succ_row h, List.flatMap_append, ordN]
  simp
theorem ordN_all (k j : Nat) : ordN k j (ordTo k j).length = ordTo k (j + 1) := by rw [ordN, List.take_length]; rfl
theorem nextO_zero (l : List Int) : nextO l 0 = [] := by simp [nextO]
theorem nextO_len (l : List Int) (m : Nat) : (nextO l m).length ≤ m := by
  rw [nextO, List.length_map]
  have := List.length_filter_le (fun i : Nat => !decide ((i : Int) ∈ l)) (List.range m)
  rw [List.length_range] at this
  exact this
theorem ordN_len {k j a : Nat} : (ordN k j a).length ≤ (ordTo k j).length * k := by
  have h := flat_len (fun l => nextO l k) k ((ordTo k j).take a) (fun l _ => nextO_len l k)
  have h2 : ((ordTo k j).take a).length ≤ (ordTo k j).length := by rw [List.length_take]; omega
  exact Nat.le_trans h (Nat.mul_le_mul_right _ h2)
theorem ordTo_len {k : Nat} (hk : k ≤ 3) : ∀ j, (ordTo k j).length ≤ 3 ^ j
  | 0 => by simp [ordTo]
  | j + 1 => by
    have h := flat_len (fun l => nextO l k) k (ordTo k j) (fun l _ => nextO_len l k)
    have h1 := ordTo_len hk j
    have h2 : (ordTo k j).length * k ≤ 3 ^ j * 3 := Nat.mul_le_mul h1 hk
    rw [Nat.pow_succ]
    exact Nat.le_trans h h2
theorem ordTo_27 {k j : Nat} (hk : k ≤ 3) (hj : j ≤ 3) : (ordTo k j).length ≤ 27 := by
  have h1 := ordTo_len hk j
  have h2 : 3 ^ j ≤ 3 ^ 3 := Nat.pow_le_pow_right (by omega) hj
  omega
theorem ordN_81 {k j a : Nat} (hk : k ≤ 3) (hj : j ≤ 3) : (ordN k j a).length ≤ 81 := by
  have h1 := ordTo_27 hk hj
  have h2 : (ordTo k j).length * k ≤ 27 * 3 := Nat.mul_le_mul h1 hk
  exact Nat.le_trans ordN_len h2
theorem ordTo_rows {k j : Nat} (hk : k ≤ 3) (hj : j ≤ 3) : ShortRows (ordTo k j).length ∧ (∀ r ∈ ordTo k j, Short r.length) ∧ ∀ r ∈ ordTo k j, ∀ x ∈ r, I64 x := by
  have h1 := ordTo_27 hk hj
  refine ⟨by unfold ShortRows; omega, fun r hr => by have := (ordTo_mem.1 hr).1; unfold Short; omega, fun r hr x hx => by have := (ordTo_mem.1 hr).2.2 x hx; unfold I64; omega⟩

/-! the configurations of the reference: point by point -/
/-- the point from which a configuration goes on -/
def frm (c : List Int) : Nat := (nth c (c.length - 1)).toNat
def extT (c : List Int) (x : Nat) : List (List Int) := (List.range' (frm c) (x - frm c)).map fun y : Nat => c ++ [(y : Int)]
def itTo (n : Nat) : Nat → List (List Int)
  | 0 => [[]]
  | i + 1 => (itTo n i).flatMap fun c => extT c n
theorem extT_start (c : List Int) : extT c (frm c) = [] := by simp [extT]
theorem extT_succ {c : List Int} {x : Nat} (h : frm c ≤ x) : extT c (x + 1) = extT c x ++ [c ++ [(x : Int)]] := by
  have e : x + 1 - frm c = (x - frm c) + 1 := by omega
  rw [extT, e, List.range'_concat, List.map_append, extT]
  simp only [List.map_cons, List.map_nil, Nat.one_mul]
  rw [show frm c + (x - frm c) = x by omega]
def itN (n i a : Nat) : List (List Int) := ((itTo n i).take a).flatMap fun c => extT c n
theorem itN_zero (n i : Nat) : itN n i 0 = [] := by simp [itN]
theorem itN_succ {n i a : Nat} (h : a < (itTo n i).length) : itN n i (a + 1) = itN n i a ++ extT (row (itTo n i) a) n := by
  rw [itN, take_succ_row h, List.flatMap_append, itN]
  simp
theorem itN_all (n i : Nat) : itN n i (itTo n i).length = itTo n (i + 1) := by rw [itN, List.take_length]; rfl
def frm2 (f : Nat) (c : List Int) : Nat := if c = [] then f else frm c
theorem confs_snoc (n : Nat) : ∀ k f, confs n (k + 1) f = (confs n k f).flatMap fun c => (List.range' (frm2 f c) (n - frm2 f c)).map fun y : Nat => c ++ [(y : Int)]
  | 0, f => by
    simp [confs, frm2, List.flatMap_def]
    induction List.range' f (n - f) with
    | nil => rfl
    | cons x l ih => simp [ih]
  | k + 1, f => by
    rw [confs, confs, List.flatMap_assoc]
    refine List.flatMap_congr' fun x hx => ?_
    rw [confs_snoc n k x, List.map_flatMap, List.flatMap_map]
    refine List.flatMap_congr' fun c hc => ?_
    have e : frm2 x c = frm2 f ((x : Int) :: c) := by
      unfold frm2
      rw [if_neg (by simp : ¬ ((x : Int) :: c = []))]
      by_cases h : c = []
      · rw [if_pos h, h]; simp [frm, nth]
      · rw [if_neg h]
        unfold frm
        cases c with
        | nil => exact absurd rfl h
        | cons y c => simp [nth]
    rw [e, List.map_map]
    rfl
where
  List.flatMap_congr' {α β : Type} {l : List α} {f g : α → List β} (h : ∀ x ∈ l, f x = g x) : l.flatMap f = l.flatMap g := by
    rw [List.flatMap_def, List.flatMap_def]
    congr 1
    exact List.map_congr_left h
theorem itTo_confs (n : Nat) : ∀ k, itTo n k = confs n k 0
  | 0 => rfl
  | k + 1 => by
    rw [itTo, itTo_confs n k, confs_snoc]
    rw [List.flatMap_def, List.flatMap_def]
    congr 1
    refine List.map_congr_left fun c _ => ?_
    have e : frm2 0 c = frm c := by
      unfold frm2
      by_cases h : c = []
      · rw [if_pos h, h]; rfl
      · rw [if_neg h]
    rw [e]; rfl
theorem extT_len (c : List Int) (x : Nat) : (extT c x).length ≤ x := by simp [extT]
theorem itN_len {n i a : Nat} (hn : n ≤ 6) (hi : i ≤ 3) : (itN n i a).length ≤ 1296 := by
  have h := flat_len (fun c => extT c n) n ((itTo n i).take a) (fun c _ => extT_len c n)
  have h1 : ((itTo n i).take a).length ≤ (itTo n i).length := by rw [List.length_take]; omega
  have h2 := confs_len hn i 0
  rw [← itTo_confs] at h2
  have h3 : 6 ^ i ≤ 6 ^ 3 := Nat.pow_le_pow_right (by omega) hi
  have h4 : ((itTo n i).take a).length * n ≤ 216 * 6 := Nat.mul_le_mul (by omega) hn
  unfold itN
  omega
end Go.Proofs.YtllfchcocgdcjaaGreat

/- Plain words on matchings: sums place by place, and what a metric gives. -/
namespace Go.Proofs.YtllfchcocgdcjaaGreat
open Go.RowKit

--PURE
def cTo (M : List (List Int)) (a c : List Int) : Nat → Int
  | 0 => 0
  | i + 1 => cTo M a c i + cell M (nth a i).toNat (nth c i).toNat
theorem cTo_cons (M : List (List Int)) (x y : Int) (a c : List Int) : ∀ i, cTo M (x :: a) (y :: c) (i + 1) = cell M x.toNat y.toNat + cTo M a c i
  | 0 => by simp [cTo, nth]
  | i + 1 => by
    rw [cTo, cTo_cons M x y a c i, cTo]
    have h1 : nth (x :: a) (i + 1) = nth a i := rfl
    have h2 : nth (y :: c) (i + 1) = nth c i := rfl
    rw [h1, h2]
    omega
theorem costL_cTo (M : List (List Int)) : ∀ (a c : List Int), a.length = c.length → costL M a c = cTo M a c a.length
  | [], c, _ => by rw [costL_nil]; rfl
  | x :: a, [], h => by simp at h
  | x :: a, y :: c, h => by
    rw [List.length_cons, cTo_cons, costL, costL_cTo M a c (by simpa using h)]
theorem cTo_in {M : List (List Int)} {n : Nat} (hd : Dst M n) {a c : List Int} (ha : Pts n a) (hc : Pts n c) : ∀ {i : Nat}, i ≤ a.length → i ≤ c.length → 0 ≤ cTo M a c i ∧ cTo M a c i ≤ 99 * i
  | 0, _, _ => by simp [cTo]
  | i + 1, h1, h2 => by
    have ih := cTo_in hd ha hc (i := i) (by omega) (by omega)
    have h3 := ha _ (nth_mem (xs := a) (k := i) (by omega))
    have h4 := hc _ (nth_mem (xs := c) (k := i) (by omega))
    have := hd.pos (nth a i).toNat (nth c i).toNat (by omega) (by omega)
    rw [cTo]
    omega
theorem nth_pick {b l : List Int} {i : Nat} (h : i < l.length) : nth (pickL b l) i = nth b (nth l i).toNat := by simp [pickL, nth, h]
theorem pick_len (b l : List Int) : (pickL b l).length = l.length := by simp [pickL]
theorem dst_of_met {M : List (List Int)} (h : metB M = true) : Dst M M.length := by
  simp only [metB, Bool.and_eq_true] at h
  obtain ⟨ht, hn⟩ := h
  have hc : ∀ x y, x < M.length → y < M.length → cellOk M x y = true := fun x y hx hy => by
    simp only [tableB, Bool.and_eq_true] at ht
    have := ht.2
    simp only [cellsOk, decide_eq_true_eq] at this
    exact this x hx y hy
  simp only [NoDetB, decide_eq_true_eq] at hn
  refine ⟨fun x y hx hy => tableB_cell ht hx hy, fun x hx => ?_, fun x y hx hy hz => ?_, fun x y hx hy => ?_, fun x y z hx hy hz => ?_⟩
  · have := hc x x hx hx
    simp only [cellOk, Bool.and_eq_true, if_true] at this
    simpa using this.2
  · by_cases e : x = y
    · exact e
    · have := hc x y hx hy
      simp only [cellOk, Bool.and_eq_true, if_neg e] at this
      have := inB_true.1 this.2
      omega
  · have := hc x y hx hy
    simp only [cellOk, Bool.and_eq_true] at this
    simpa using this.1
  · have := hn x hx y hy z hz
    simp only [detourAt, decide_eq_false_iff_not] at this
    omega
theorem met_sq {M : List (List Int)} (h : metB M = true) : square M = true := by
  simp only [metB, Bool.and_eq_true] at h
  exact tableB_square h.1
theorem met_len {M : List (List Int)} (h : metB M = true) : 1 ≤ M.length ∧ M.length ≤ 6 := by
  simp only [metB, Bool.and_eq_true] at h
  exact tableB_len h.1
end Go.Proofs.YtllfchcocgdcjaaGreat

/- Tables of one's own that grow: their values hidden, their rows told. -/
namespace Go.Proofs.YtllfchcocgdcjaaGreat
open Go.RowKit

/-- w has a table of one's own, v, whose rows are M, and the rows R beside it -/
def Tab (w : World) (B : Nat) (v : Value) (M : List (List Int)) (R : List Row) : Prop := ∃ vs, vs.length = M.length ∧ Own w B (rowsOf 27 3 v vs M ++ R)
/-- and a row xs that is being made -/
def TabX (w : World) (B : Nat) (v : Value) (M : List (List Int)) (rv : Value) (xs : List Int) (R : List Row) : Prop := ∃ vs, vs.length = M.length ∧ Own w B (intRowOf 3 rv xs :: (rowsOf 27 3 v vs M ++ R))

theorem Tab.ext {w w' : World} {B : Nat} {v : Value} {M : List (List Int)} {R : List Row} (h : Tab w B v M R) [e : Ext w w'] : Tab w' B v M R := by
  obtain ⟨vs, h1, h2⟩ := h
  exact ⟨vs, h1, h2.ext⟩
theorem TabX.ext {w w' : World} {B : Nat} {v rv : Value} {M : List (List Int)} {xs : List Int} {R : List Row} (h : TabX w B v M rv xs R) [e : Ext w w'] : TabX w' B v M rv xs R := by
  obtain ⟨vs, h1, h2⟩ := h
  exact ⟨vs, h1, h2.ext⟩
theorem Tab.form {w : World} {B : Nat} {v : Value} {M : List (List Int)} {R : List Row} (h : Tab w B v M R) : ∃ d m, v = .slice d M.length m := by
  obtain ⟨vs, h1, h2⟩ := h
  have h3 : Own w B (⟨27, 1, v, vs.length, vs⟩ :: (List.zipWith (intRowOf 3) vs M ++ R)) := h2
  obtain ⟨d, m, h4⟩ := h3.form
  have h4' : v = .slice d vs.length m := h4
  exact ⟨d, m, by rw [h4', h1]⟩
theorem TabX.tab {w : World} {B : Nat} {v rv : Value} {M : List (List Int)} {xs : List Int} {R : List Row} (h : TabX w B v M rv xs R) : Tab w B v M R := by
  obtain ⟨vs, h1, h2⟩ := h
  exact ⟨vs, h1, h2.tail⟩
theorem TabX.own {w : World} {B : Nat} {v rv : Value} {M : List (List Int)} {xs : List Int} {R : List Row} (h : TabX w B v M rv xs R) : ∃ R', Own w B (intRowOf 3 rv xs :: R') := by
  obtain ⟨vs, h1, h2⟩ := h
  exact ⟨_, h2⟩
theorem TabX.rform {w : World} {B : Nat} {v rv : Value} {M : List (List Int)} {xs : List Int} {R : List Row} (h : TabX w B v M rv xs R) : ∃ d m, rv = .slice d xs.length m := by
  obtain ⟨R', h⟩ := h.own
  exact h.form
theorem Tab.rest {w : World} {B : Nat} {v : Value} {M : List (List Int)} {R : List Row} (h : Tab w B v M R) : Own w B R := by
  obtain ⟨vs, h1, h2⟩ := h
  exact h2.right
theorem Tab.start {w : World} {B : Nat} {R : List Row} (h : Own w B R) (hB : B ≤ w.heap.size) : Tab (w.alloc (.cells #[] 27)) B (.slice (some ⟨w.heap.size, 0, none⟩) 0 0) [] R :=
  ⟨[], rfl, h.lit 27 1 0 #[] hB (by unfold maxLen; omega) rfl⟩
theorem Tab.nil {w : World} {B : Nat} {R : List Row} (h : Own w B R) : Tab w B (.slice none 0 0) [] R := ⟨[], rfl, h.cons_nil _ _⟩
/-- a row of one's own joins, made by a callee -/
theorem Tab.join {w w' : World} {B : Nat} {v rv : Value} {M : List (List Int)} {xs : List Int} {R : List Row} (h : Tab w B v M R) (hn : Own w' w.heap.size [intRowOf 3 rv xs]) (e : Ext w w') (hB : B ≤ w.heap.size) : TabX w' B v M rv xs R := by
  obtain ⟨vs, h1, h2⟩ := h
  exact ⟨vs, h1, Own.join h2 hn hB⟩
/-- a row that is written out -/
theorem Tab.lit {w : World} {B : Nat} {v : Value} {M : List (List Int)} {R : List Row} (h : Tab w B v M R) (cs : Array Value) (xs : List Int) {n : Nat} (hB : B ≤ w.heap.size) (hx : cs.toList = xs.map (Value.int .i64)) (hn : n = xs.length) (hs : xs.length ≤ 1000000) :
    TabX (w.alloc (.cells cs 3)) B v M (.slice (some ⟨w.heap.size, 0, none⟩) n n) xs R := by
  subst hn
  obtain ⟨vs, h1, h2⟩ := h
  have hl : cs.size = xs.length * 1 := by rw [← Array.length_toList, hx]; simp
  have h3 := h2.lit 3 1 xs.length cs hB (by unfold maxLen; omega) hl
  rw [hx] at h3
  exact ⟨vs, h1, h3⟩
theorem Tab.reads {w : World} {B : Nat} {v : Value} {M : List (List Int)} {R : List Row} (h : Tab w B v M R) (hs : ShortRows M.length) (hr : ∀ r ∈ M, Short r.length) (hi : ∀ r ∈ M, ∀ x ∈ r, I64 x) : IsRows w v M := by
  obtain ⟨vs, h1, h2⟩ := h
  exact h2.readsAll h1 hs hr hi
theorem Tab.rows {w : World} {B : Nat} {v : Value} {M : List (List Int)} {R : List Row} (h : Tab w B v M R) : ∃ vs, vs.length = M.length ∧ Own w B (rowsOf 27 3 v vs M ++ R) := h
theorem TabX.reads {w : World} {B : Nat} {v rv : Value} {M : List (List Int)} {xs : List Int} {R : List Row} (h : TabX w B v M rv xs R) (hs : Short xs.length) (hi : ∀ x ∈ xs, I64 x) : IsInts w rv xs := by
  obtain ⟨R', h⟩ := h.own
  exact h.reads hs hi
section
variable {P : Program} {ops : Array Oper} {o : Oper} {rest : List Oper} {a : Act} {w : World} {Q : Exit → Act → World → Prop}
/-- the finished row is appended to the table -/
theorem wpList_push (hgd : o.guard = none) (s x : Operand) (ho : o.op = .call { callee := .builtin .append, args := #[s, x], argTypes := #[24, 24] })
    {B : Nat} {v rv : Value} {M : List (List Int)} {xs : List Int} {R : List Row} (hs : a.eval s = v) (tab : TabX w B v M rv xs R) (hB : B ≤ w.heap.size)
    (hx : a.eval x = .slice (some ⟨w.heap.size, 0, none⟩) 1 1) (hm : M.length ≤ 1000000)
    (h : ∀ v' w', Tab w' B v' (M ++ [xs]) R → Below B w w' → wpList Tryz.prog ops Q rest (a.put o.dst v') w') : wpList Tryz.prog ops Q (o :: rest) a (w.alloc (.cells #[rv] 27)) := by
  obtain ⟨vs, h1, h2⟩ := tab
  have h3 : Own w B (⟨27, 1, v, vs.length, vs⟩ :: (intRowOf 3 rv xs :: (List.zipWith (intRowOf 3) vs M ++ R))) := h2.perm (List.Perm.swap _ _ _)
  have h1c : rv.oneCell' = true := by
    obtain ⟨d, m, hv⟩ : ∃ d m, rv = .slice d xs.length m := h2.form
    rw [hv]; rfl
  refine wpList_append1 hgd s x _ ho elemInts hs h3 hB hx h1c (by omega) (by omega) fun v' w' h4 h5 => h v' w' ⟨vs ++ [rv], by simp [h1], ?_⟩ h5
  have e : rowsOf 27 3 v' (vs ++ [rv]) (M ++ [xs]) ++ R = (⟨27, 1, v', vs.length + 1, vs ++ [rv]⟩ : Row) :: (List.zipWith (intRowOf 3) vs M ++ (intRowOf 3 rv xs :: R)) := by
    unfold rowsOf valRowOf
    rw [List.zipWith_append h1, List.length_append]
    simp
  rw [e]
  exact h4.perm (List.Perm.cons _ List.perm_middle)
/-- a number is appended to the row -/
theorem wpList_grow (hgd : o.guard = none) (s x : Operand) (ho : o.op = .call { callee := .builtin .append, args := #[s, x], argTypes := #[27, 27] })
    {B : Nat} {v rv : Value} {M : List (List Int)} {xs : List Int} {R : List Row} {y : Int} (hs : a.eval s = rv) (tab : TabX w B v M rv xs R) (hB : B ≤ w.heap.size)
    (hx : a.eval x = .slice (some ⟨w.heap.size, 0, none⟩) 1 1) (hm : xs.length ≤ 1000000)
    (h : ∀ rv' w', TabX w' B v M rv' (xs ++ [y]) R → Below B w w' → wpList Tryz.prog ops Q rest (a.put o.dst rv') w') : wpList Tryz.prog ops Q (o :: rest) a (w.alloc (.cells #[.int .i64 y] 3)) := by
  obtain ⟨vs, h1, h2⟩ := tab
  refine wpList_append1 hgd s x _ ho elemInt hs h2 hB hx rfl (by omega) (by omega) fun v' w' h4 h5 => h v' w' ⟨vs, h1, ?_⟩ h5
  unfold intRowOf
  rw [List.length_append, List.map_append]
  exact h4
/-- numbers that are there already are appended to the row -/
theorem wpList_more (hgd : o.guard = none) (s x : Operand) (ho : o.op = .call { callee := .builtin .append, args := #[s, x], argTypes := #[27, 27] })
    {B : Nat} {v rv u : Value} {M : List (List Int)} {xs ys : List Int} {R : List Row} (hs : a.eval s = rv) (tab : TabX w B v M rv xs R) (hB : B ≤ w.heap.size)
    (hx : a.eval x = u) (hy : IsInts w u ys) (hm : xs.length + ys.length ≤ 1000000)
    (h : ∀ rv' w', TabX w' B v M rv' (xs ++ ys) R → Below B w w' → wpList Tryz.prog ops Q rest (a.put o.dst rv') w') : wpList Tryz.prog ops Q (o :: rest) a w := by
  obtain ⟨vs, h1, h2⟩ := tab
  refine wpList_appendInts hgd s x _ ho elemInt hs h2 hB hx hy (by omega) fun v' w' h4 h5 => h v' w' ⟨vs, h1, ?_⟩ h5
  unfold intRowOf
  rw [List.length_append, List.map_append]
  exact h4
end
end Go.Proofs.YtllfchcocgdcjaaGreat

/- The lists of all configurations, of the program and of the reference. -/
namespace Go.Proofs.YtllfchcocgdcjaaGreat
open Go.RowKit

theorem Tab.drop {w : World} {B : Nat} {v : Value} {M : List (List Int)} {R : List Row} (h : Tab w B v M R) : Tab w B v M [] := by
  obtain ⟨vs, h1, h2⟩ := h
  exact ⟨vs, h1, by rw [List.append_nil]; exact h2.left⟩
theorem Tab.eq {w : World} {B : Nat} {v : Value} {M N : List (List Int)} {R : List Row} (h : Tab w B v M R) (e : M = N) : Tab w B v N R := e ▸ h
theorem Tab.with {w w' : World} {B : Nat} {v u : Value} {M L : List (List Int)} {R : List Row} (h : Tab w B v M R) (hn : Tab w' w.heap.size u L []) (e : Ext w w') (hB : B ≤ w.heap.size)
    (hs : ShortRows L.length) (hr : ∀ r ∈ L, Short r.length) (hi : ∀ r ∈ L, ∀ x ∈ r, I64 x) : ∃ R', Tab w' B v M R' ∧ ∀ z, Own z B R' → IsRows z u L := by
  obtain ⟨vs, h1, h2⟩ := h
  obtain ⟨us, h3, h4⟩ := hn
  have h5 := (Own.join h2 h4 hB).swap
  rw [List.append_assoc] at h5
  refine ⟨R ++ (rowsOf 27 3 u us L ++ []), ⟨vs, h1, h5⟩, fun z hz => ?_⟩
  exact hz.right.readsAll h3 hs hr hi
theorem confs_rows {n k f : Nat} (hn : n ≤ 6) (hk : k ≤ 3) : ShortRows (confs n k f).length ∧ (∀ r ∈ confs n k f, Short r.length) ∧ ∀ r ∈ confs n k f, ∀ x ∈ r, I64 x := by
  have h1 := confs_len hn k f
  have h2 : 6 ^ k ≤ 6 ^ 3 := Nat.pow_le_pow_right (by omega) hk
  refine ⟨by unfold ShortRows; omega, fun r hr => by have := (confs_mem hr).1; unfold Short; omega, fun r hr x hx => by have := (confs_mem hr).2 x hx; unfold I64; omega⟩

set_option maxHeartbeats 1600000 in
set_option maxRecDepth 100000 in
theorem configsOf_any {n : Nat} (hn : n ≤ 6) : ∀ (k f : Nat), k ≤ 3 → f ≤ 6 → ∀ w : World,
    Calls Tryz.prog 83 #[.int .i64 n, .int .i64 k, .int .i64 f] w fun e w' => ∃ v, e = .returned v ∧ Tab w' w.heap.size v (confs n k f) [] ∧ Ext w w'
  | 0, f, _, _, w => by
    go_enter Tryz.func83, Tryz.ntmps83
    go_wp2
    go_ret
    refine ⟨_, rfl, ?_, inferInstance⟩
    have h1 := (Own.nil w w.heap.size).lit 3 1 0 #[] (Nat.le_refl _) (by unfold maxLen; omega) rfl
    have h2 := h1.lit 27 1 1 #[.slice (some ⟨w.heap.size, 0, none⟩) 0 0] (by simp) (by unfold maxLen; omega) rfl
    rw [show (w.alloc (.cells #[] 3)).heap.size = w.heap.size + 1 by simp] at h2
    exact ⟨[.slice (some ⟨w.heap.size, 0, none⟩) 0 0], rfl, h2⟩
  | k + 1, f, hk, hf, w => by
    have ih := hid (configsOf_any hn k)
    have h6 : 6 ^ k ≤ 36 := by
      have : 6 ^ k ≤ 6 ^ 2 := Nat.pow_le_pow_right (by omega) (by omega)
      omega
    have hkk : ((k : Int) + 1 == 0) = false := by simp; omega
    have hk1 : ((k + 1 : Nat) : Int) = (k : Int) + 1 := by omega
    rw [hk1]
    replace hk1 := hid hk1
    go_enter Tryz.func83, Tryz.ntmps83
    go_upto_region 4 with fail
    have tab0 := Tab.start (Own.nil w w.heap.size) (Nat.le_refl _)
    have e0 : Ext w (w.alloc (.cells #[] 27)) := inferInstance
    have hS : Tab (w.alloc (.cells #[] 27)) w.heap.size (.slice (some ⟨w.heap.size, 0, none⟩) 0 0) (cfTo n k f f) [] := by rw [cfTo_zero]; exact tab0
    clear tab0
    obtain ⟨B, hB⟩ : ∃ b, b = w.heap.size := ⟨_, rfl⟩
    rw [← hB] at hS ⊢
    have b0 : Below B w (w.alloc (.cells #[] 27)) := by rw [hB]; exact e0.below
    have hl0 : B ≤ w.heap.size := Nat.le_of_eq hB
    generalize w.alloc (.cells #[] 27) = w1 at *
    replace hB := hid hB
    clear e0
    go_wp2
    go_loopw [7, 8] (fun v i wr => ∃ x : Nat, f ≤ x ∧ (x ≤ n ∨ x = f) ∧ i = .int .i64 x ∧ Tab wr B v (cfTo n k f x) [] ∧ Below B w wr) (fun _ i _ => n - (intOf i).toNat)
    case atStart => exact ⟨f, Nat.le_refl _, .inr rfl, rfl, hS, b0⟩
    case round =>
      obtain ⟨x, hfx, hxn, rfl, htab, hb⟩ := hrel
      obtain ⟨d, m, rfl⟩ := htab.form
      obtain ⟨wo, rfl⟩ : ∃ y : World, y = wr := ⟨_, rfl⟩
      have hBo : B ≤ wo.heap.size := Nat.le_trans hl0 hb.size
      by_cases hlt : x < n
      · go_wp2_with fail
        with_reducible refine (ih.out x (by omega) (by omega) wo).mono ?_
        rintro e w2 ⟨v, rfl, htab2, e2⟩
        obtain ⟨d2, m2, rfl⟩ := htab2.form
        obtain ⟨R, htab3, hR⟩ := htab.with htab2 e2 hBo (confs_rows hn (by omega)).1 (confs_rows hn (by omega)).2.1 (confs_rows hn (by omega)).2.2
        have hb2 : Below B w w2 := hb.trans (e2.below.mono hBo)
        have hlen := confs_len hn k x
        have hlen2 := cfTo_len (k := k) (f := f) hn (show x ≤ n by omega)
        have hsc := hid (cfTo_succ (n := n) (k := k) hfx)
        replace hR := hid hR
        clear htab htab2
        obtain ⟨L, hL⟩ : ∃ l, l = confs n k x := ⟨_, rfl⟩
        obtain ⟨T, hT⟩ : ∃ l, l = cfTo n k f x := ⟨_, rfl⟩
        rw [← hL] at hR hlen hsc ⊢
        rw [← hT] at htab3 hlen2 hsc ⊢
        have hLm := hid (show ∀ r ∈ L, r.length = k ∧ ∀ y ∈ r, I64 y from fun r hr => by
          rw [hL] at hr
          exact ⟨(confs_mem hr).1, fun y hy => by have := (confs_mem hr).2 y hy; unfold I64; omega⟩)
        replace hL := hid hL
        replace hT := hid hT
        have hS2 : Tab w2 B (.slice d T.length m) (T ++ (L.take 0).map (List.cons (x : Int))) R := by simpa using htab3
        clear htab3
        go_wp2_with fail
        go_loopw [7, 28] (fun v i wr => ∃ j : Nat, j ≤ L.length ∧ i = .int .i64 j ∧ Tab wr B v (T ++ (L.take j).map (List.cons (x : Int))) R ∧ Below B w wr) (fun _ i _ => L.length - (intOf i).toNat)
        case atStart => exact ⟨0, by omega, rfl, hS2, hb2⟩
        case round =>
          obtain ⟨j, hj, rfl, htab, hb⟩ := hrel
          obtain ⟨d3, m3, rfl⟩ := htab.form
          obtain ⟨wq, rfl⟩ : ∃ y : World, y = wr := ⟨_, rfl⟩
          have hBq : B ≤ wq.heap.size := Nat.le_trans hl0 hb.size
          have hlq : (T ++ (L.take j).map (List.cons (x : Int))).length ≤ 1000 := by simp; omega
          by_cases hltj : j < L.length
          · have hrows := hR.out wq htab.rest
            obtain ⟨b, o, dr, mr, hd2, hcr, hir, hlr⟩ := hrows.at (w' := wq) (k := j) hltj
            subst hd2
            have hrl := (hLm.out _ (row_mem hltj)).1
            have hsn := hid (show T ++ (L.take (j + 1)).map (List.cons (x : Int)) = (T ++ (L.take j).map (List.cons (x : Int))) ++ [(x : Int) :: row L j] by
              rw [take_succ_row hltj, List.map_append, List.append_assoc]; rfl)
            have tabL := htab.lit #[.int .i64 (x : Int)] [(x : Int)] hBq rfl rfl (by simp)
            have bL : Below B w (wq.alloc (.cells #[.int .i64 (x : Int)] 3)) := hb.alloc hBq _
            obtain ⟨Tj, hTj⟩ : ∃ l, l = T ++ (L.take j).map (List.cons (x : Int)) := ⟨_, rfl⟩
            rw [← hTj] at hlq tabL hsn ⊢
            replace hTj := hid hTj
            replace hrl := hid hrl
            have hBl : B ≤ (wq.alloc (.cells #[.int .i64 (x : Int)] 3)).heap.size := Nat.le_trans hl0 bL.size
            have hirl : IsInts (wq.alloc (.cells #[.int .i64 (x : Int)] 3)) (.slice dr (row L j).length mr) (row L j) := hir.ext
            go_wp2_with (first
              | (at_builtin; refine wpList_more rfl (.tmp 34) (.tmp 35) rfl rfl tabL hBl rfl hirl (by have := hrl.out; simp; omega) ?_; intro v4 w4 tab4 b4; obtain ⟨d4, m4, hv4⟩ := tab4.rform; subst hv4)
              | (at_builtin; refine wpList_push rfl (.tmp 32) (.tmp 37) rfl rfl tab4 (Nat.le_trans hl0 (bL.trans b4).size) rfl (by omega) ?_; intro v5 w5 tab5 b5))
            go_roundw
            case rel => exact ⟨j + 1, by omega, by go_num, by rw [hsn.out]; exact tab5, (bL.trans b4).trans b5⟩
            case measure => simp [intOf]; omega
          · have hjl : j = L.length := by omega
            go_wp2_with fail
            go_roundw
            case rel =>
              refine ⟨x + 1, by omega, .inl (by omega), by go_num, ?_, hb⟩
              exact htab.drop.eq (by rw [hsc.out, hjl, List.take_length])
            case measure => simp [intOf]; omega
      · have hrel2 : confs n (k + 1) f = cfTo n k f x := by
          rw [confs_succ]
          rcases hxn with h | h
          · rw [show x = n by omega]
          · subst h
            simp [cfTo, show n - x = 0 by omega]
        replace hrel2 := hid hrel2
        go_wp2_with fail
        go_ret
        exact ⟨_, rfl, by rw [hrel2.out, ← hB.out]; exact htab, ⟨by rw [← hB.out]; exact hb⟩⟩
end Go.Proofs.YtllfchcocgdcjaaGreat

