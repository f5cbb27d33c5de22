/- Plain words on configurations of servers: costs of matchings, which are least over all orders, and the laws of a distance. -/
import Derived.Test.YtohjbabjkjcddaaSpecA
import Derived.Test.YtohjbabjkjcddaaMin
namespace Go.Proofs.Ytohjbabjkjcddaa
open Go.RowKit

--PURE
/-- the sum of the distances of two lists, place by place -/
def costL (M : List (List Int)) : List Int → List Int → Int
  | x :: a, y :: b => cell M x.toNat y.toNat + costL M a b
  | _, _ => 0
theorem costL_nil (M : List (List Int)) (b : List Int) : costL M [] b = 0 := by cases b <;> rfl
theorem costL_perm {M : List (List Int)} {a a' : List Int} (p : a.Perm a') : ∀ b : List Int, b.length = a.length → ∃ b', b'.Perm b ∧ costL M a' b' = costL M a b := by
  induction p with
  | nil => intro b _; exact ⟨b, List.Perm.refl _, rfl⟩
  | cons x p ih =>
    intro b hb
    cases b with
    | nil => simp at hb
    | cons y b =>
      obtain ⟨b', h1, h2⟩ := ih b (by simpa using hb)
      exact ⟨y :: b', h1.cons y, by simp only [costL]; omega⟩
  | swap x y l =>
    intro b hb
    match b, hb with
    | u :: v :: b, _ => exact ⟨v :: u :: b, List.Perm.swap _ _ _, by simp only [costL]; omega⟩
  | trans p q ih1 ih2 =>
    intro b hb
    obtain ⟨b1, h1, h2⟩ := ih1 b hb
    obtain ⟨b2, h3, h4⟩ := ih2 b1 (by rw [h1.length_eq, hb, p.length_eq])
    exact ⟨b2, h3.trans h1, by omega⟩
theorem costL_symm {M : List (List Int)} {n : Nat} (hs : ∀ x y, x < n → y < n → cell M x y = cell M y x) : ∀ (a b : List Int), a.length = b.length → (∀ x ∈ a, 0 ≤ x ∧ x < (n : Int)) → (∀ x ∈ b, 0 ≤ x ∧ x < (n : Int)) → costL M a b = costL M b a
  | [], b, h, _, _ => by
    have : b = [] := List.eq_nil_of_length_eq_zero (by simpa using h.symm)
    subst this; rfl
  | x :: a, [], h, _, _ => by simp at h
  | x :: a, y :: b, h, ha, hb => by
    have h1 := ha x (by simp)
    have h2 := hb y (by simp)
    simp only [costL]
    rw [costL_symm hs a b (by simpa using h) (fun z hz => ha z (by simp [hz])) (fun z hz => hb z (by simp [hz])), hs x.toNat y.toNat (by omega) (by omega)]
theorem costL_tri {M : List (List Int)} {n : Nat} (ht : ∀ x y z, x < n → y < n → z < n → cell M x z ≤ cell M x y + cell M y z) : ∀ (a b c : List Int), a.length = b.length → b.length = c.length → (∀ x ∈ a, 0 ≤ x ∧ x < (n : Int)) → (∀ x ∈ b, 0 ≤ x ∧ x < (n : Int)) → (∀ x ∈ c, 0 ≤ x ∧ x < (n : Int)) →
    costL M a c ≤ costL M a b + costL M b c
  | [], b, c, _, _, _, _, _ => by
    have e : b = [] := List.eq_nil_of_length_eq_zero (by simp_all)
    subst e
    have e : c = [] := List.eq_nil_of_length_eq_zero (by simp_all)
    subst e
    simp [costL]
  | x :: a, [], c, h, _, _, _, _ => by simp at h
  | x :: a, y :: b, [], _, h, _, _, _ => by simp at h
  | x :: a, y :: b, z :: c, h, k, ha, hb, hc => by
    have h1 := ha x (by simp)
    have h2 := hb y (by simp)
    have h3 := hc z (by simp)
    have ih := costL_tri ht a b c (by simpa using h) (by simpa using k) (fun z hz => ha z (by simp [hz])) (fun z hz => hb z (by simp [hz])) (fun z hz => hc z (by simp [hz]))
    have := ht x.toNat y.toNat z.toNat (by omega) (by omega) (by omega)
    simp only [costL]
    omega
theorem costL_self {M : List (List Int)} {n : Nat} (hd : ∀ x, x < n → cell M x x = 0) : ∀ (a : List Int), (∀ x ∈ a, 0 ≤ x ∧ x < (n : Int)) → costL M a a = 0
  | [], _ => rfl
  | x :: a, ha => by
    have h1 := ha x (by simp)
    simp only [costL]
    rw [hd x.toNat (by omega), costL_self hd a fun z hz => ha z (by simp [hz])]
    rfl
theorem costL_in {M : List (List Int)} {n : Nat} {D : Int} (h : ∀ x y, x < n → y < n → 0 ≤ cell M x y ∧ cell M x y ≤ D) : ∀ (a b : List Int), a.length = b.length → (∀ x ∈ a, 0 ≤ x ∧ x < (n : Int)) → (∀ x ∈ b, 0 ≤ x ∧ x < (n : Int)) → 0 ≤ costL M a b ∧ costL M a b ≤ D * a.length
  | [], b, _, _, _ => by rw [costL_nil]; simp
  | x :: a, [], k, _, _ => by simp at k
  | x :: a, y :: b, k, ha, hb => by
    have h1 := ha x (by simp)
    have h2 := hb y (by simp)
    have ih := costL_in h a b (by simpa using k) (fun z hz => ha z (by simp [hz])) (fun z hz => hb z (by simp [hz]))
    have := h x.toNat y.toNat (by omega) (by omega)
    simp only [costL, List.length_cons]
    rw [Int.natCast_add, Int.mul_add]
    omega
theorem costL_nonneg {M : List (List Int)} {n : Nat} (h : ∀ x y, x < n → y < n → 0 ≤ cell M x y) : ∀ (a b : List Int), (∀ x ∈ a, 0 ≤ x ∧ x < (n : Int)) → (∀ x ∈ b, 0 ≤ x ∧ x < (n : Int)) → 0 ≤ costL M a b
  | [], b, _, _ => by rw [costL_nil]; exact Int.le_refl _
  | x :: a, [], _, _ => by simp [costL]
  | x :: a, y :: b, ha, hb => by
    have h1 := ha x (by simp)
    have h2 := hb y (by simp)
    have h3 := h x.toNat y.toNat (by omega) (by omega)
    have := costL_nonneg h a b (fun z hz => ha z (by simp [hz])) (fun z hz => hb z (by simp [hz]))
    simp only [costL]
    omega
theorem costL_zero {M : List (List Int)} {n : Nat} (h : ∀ x y, x < n → y < n → 0 ≤ cell M x y) (hz : ∀ x y, x < n → y < n → cell M x y = 0 → x = y) : ∀ (a b : List Int), a.length = b.length → (∀ x ∈ a, 0 ≤ x ∧ x < (n : Int)) → (∀ x ∈ b, 0 ≤ x ∧ x < (n : Int)) → costL M a b ≤ 0 → a = b
  | [], b, k, _, _, _ => (List.eq_nil_of_length_eq_zero (by simpa using k.symm)).symm
  | x :: a, [], k, _, _, _ => by simp at k
  | x :: a, y :: b, k, ha, hb, hc => by
    have h1 := ha x (by simp)
    have h2 := hb y (by simp)
    have h3 := h x.toNat y.toNat (by omega) (by omega)
    have hpos := costL_nonneg h a b (fun z hz => ha z (by simp [hz])) (fun z hz => hb z (by simp [hz]))
    simp only [costL] at hc
    have ih := costL_zero h hz a b (by simpa using k) (fun z hz => ha z (by simp [hz])) (fun z hz => hb z (by simp [hz])) (by omega)
    have e := hz x.toNat y.toNat (by omega) (by omega) (by omega)
    have e2 : x = y := by omega
    rw [e2, ih]

/-! the orders of the numbers below k -/
def nextO (l : List Int) (m : Nat) : List (List Int) := ((List.range m).filter fun i : Nat => !decide ((i : Int) ∈ l)).map fun i : Nat => l ++ [(i : Int)]
def ordTo (k : Nat) : Nat → List (List Int)
  | 0 => [[]]
  | j + 1 => (ordTo k j).flatMap fun l => nextO l k
def ordL (k : Nat) : List (List Int) := ordTo k k
theorem nextO_succ_yes {m : Nat} {l : List Int} (h : (m : Int) ∉ l) : nextO l (m + 1) = nextO l m ++ [l ++ [(m : Int)]] := by
  simp [nextO, List.range_succ, List.filter_append, h]
theorem nextO_succ_no {m : Nat} {l : List Int} (h : (m : Int) ∈ l) : nextO l (m + 1) = nextO l m := by
  simp [nextO, List.range_succ, List.filter_append, h]
theorem ordTo_mem {k : Nat} : ∀ {j : Nat} {l : List Int}, l ∈ ordTo k j ↔ l.length = j ∧ l.Nodup ∧ ∀ x ∈ l, 0 ≤ x ∧ x < (k : Int)
  | 0, l => by
    simp only [ordTo, List.mem_singleton]
    constructor
    · rintro rfl; simp
    · rintro ⟨h, _⟩; exact List.eq_nil_of_length_eq_zero h
  | j + 1, l => by
    simp only [ordTo, List.mem_flatMap, nextO, List.mem_map, List.mem_filter, List.mem_range]
    constructor
    · rintro ⟨l0, h0, i, ⟨hi, hn⟩, rfl⟩
      obtain ⟨h1, h2, h3⟩ := ordTo_mem.1 h0
      have hn' : (i : Int) ∉ l0 := by simpa using hn
      refine ⟨by simp [h1], ?_, fun x hx => ?_⟩
      · rw [List.nodup_append]
        refine ⟨h2, by simp, fun a ha b hb => ?_⟩
        rw [List.mem_singleton] at hb
        rw [hb]
        intro e
        exact hn' (e ▸ ha)
      · rcases List.mem_append.1 hx with h | h
        · exact h3 x h
        · rw [List.mem_singleton] at h; omega
    · rintro ⟨h1, h2, h3⟩
      obtain ⟨l0, x, rfl⟩ : ∃ l0 x, l = l0 ++ [x] := ⟨l.dropLast, l.getLast (by intro e; rw [e] at h1; simp at h1), (List.dropLast_concat_getLast _).symm⟩
      rw [List.nodup_append] at h2
      have hx := h3 x (by simp)
      refine ⟨l0, ordTo_mem.2 ⟨by simpa using h1, h2.1, fun y hy => h3 y (by simp [hy])⟩, x.toNat, ⟨by omega, ?_⟩, by rw [Int.toNat_of_nonneg hx.1]⟩
      rw [Int.toNat_of_nonneg hx.1]
      simp only [Bool.not_eq_true', decide_eq_false_iff_not]
      intro hm
      exact h2.2.2 x hm x (by simp) rfl
theorem ordL_mem {k : Nat} {l : List Int} : l ∈ ordL k ↔ l.length = k ∧ l.Nodup ∧ ∀ x ∈ l, 0 ≤ x ∧ x < (k : Int) := ordTo_mem
def idL (k : Nat) : List Int := (List.range k).map fun i : Nat => (i : Int)
theorem idL_mem {k : Nat} {x : Int} : x ∈ idL k ↔ 0 ≤ x ∧ x < (k : Int) := by
  simp only [idL, List.mem_map, List.mem_range]
  constructor
  · rintro ⟨i, hi, rfl⟩; omega
  · intro h; exact ⟨x.toNat, by omega, by omega⟩
theorem idL_nodup (k : Nat) : (idL k).Nodup := by
  rw [idL, List.nodup_iff_pairwise_ne, List.pairwise_map]
  exact (List.nodup_iff_pairwise_ne.1 List.nodup_range).imp (fun h => by omega)
theorem perm_of_sub : ∀ {l m : List Int}, l.Nodup → (∀ x ∈ l, x ∈ m) → m.length ≤ l.length → l.Perm m
  | [], m, _, _, h => by
    have : m = [] := List.eq_nil_of_length_eq_zero (by simpa using h)
    rw [this]
  | x :: l, m, h, hs, hl => by
    rw [List.nodup_cons] at h
    have hx := hs x (by simp)
    have p := List.perm_cons_erase hx
    have hlen := p.length_eq
    simp only [List.length_cons] at hlen hl
    refine ((perm_of_sub h.2 (m := m.erase x) (fun y hy => ?_) (by omega)).cons x).trans p.symm
    have hne : y ≠ x := fun e => h.1 (e ▸ hy)
    exact (List.mem_erase_of_ne hne).2 (hs y (by simp [hy]))
/-- as many different numbers below k as k: all of them -/
theorem ord_perm {k : Nat} {l : List Int} (h : l ∈ ordL k) : l.Perm (idL k) := by
  obtain ⟨h1, h2, h3⟩ := ordL_mem.1 h
  exact perm_of_sub h2 (fun x hx => idL_mem.2 (h3 x hx)) (by simp [idL, h1])
theorem perm_ord {k : Nat} {l : List Int} (h : l.Perm (idL k)) : l ∈ ordL k :=
  ordL_mem.2 ⟨by rw [h.length_eq]; simp [idL], h.nodup_iff.2 (idL_nodup k), fun x hx => idL_mem.1 (h.mem_iff.1 hx)⟩
/-- what an order picks out of a list -/
def pickL (b l : List Int) : List Int := l.map fun i => nth b i.toNat
theorem pickL_id (b : List Int) : pickL b (idL b.length) = b := by
  refine eq_of_nth (by simp [pickL, idL]) fun j hj => ?_
  have hj' : j < b.length := by simpa [pickL, idL] using hj
  simp [pickL, idL, nth, hj']
theorem pick_perm {b l : List Int} (h : l ∈ ordL b.length) : (pickL b l).Perm b := by
  have h1 := (ord_perm h).map (fun i => nth b i.toNat)
  have h2 : pickL b (idL b.length) = b := pickL_id b
  unfold pickL at h2
  rw [h2] at h1
  exact h1
theorem map_perm_inv {α β : Type} (f : α → β) {b' c : List β} (p : c.Perm b') : ∀ l : List α, b' = l.map f → ∃ l' : List α, l'.Perm l ∧ c = l'.map f := by
  induction p with
  | nil => intro l h; exact ⟨[], by have : l = [] := by simpa using h.symm
                                    rw [this], rfl⟩
  | cons x p ih =>
    intro l h
    cases l with
    | nil => simp at h
    | cons y l =>
      simp only [List.map_cons, List.cons.injEq] at h
      obtain ⟨l', h1, h2⟩ := ih l h.2
      exact ⟨y :: l', h1.cons y, by rw [List.map_cons, h.1, h2]⟩
  | swap x y l0 =>
    intro l h
    match l, h with
    | u :: v :: l, h =>
      simp only [List.map_cons, List.cons.injEq] at h
      exact ⟨v :: u :: l, List.Perm.swap _ _ _, by simp [h.1, h.2.1, h.2.2]⟩
    | [], h => simp at h
    | [u], h => simp at h
  | trans p q ih1 ih2 =>
    intro l h
    obtain ⟨l1, h1, h2⟩ := ih2 l h
    obtain ⟨l2, h3, h4⟩ := ih1 l1 h2
    exact ⟨l2, h3.trans h1, h4⟩
theorem perm_pick {b c : List Int} (h : c.Perm b) : ∃ l, l ∈ ordL b.length ∧ c = pickL b l := by
  obtain ⟨l, h1, h2⟩ := map_perm_inv (fun i : Int => nth b i.toNat) h (idL b.length) (pickL_id b).symm
  exact ⟨l, perm_ord h1, h2⟩
theorem ordL_ne (k : Nat) : idL k ∈ ordL k := perm_ord (List.Perm.refl _)

/-! the first of the least -/
/-- the place and the value of the first least one of the first j, behind F -/
def bestTo (f : List Int → Int) (P : List (List Int)) (F : Int) : Nat → List Int × Int
  | 0 => ([], F)
  | j + 1 => if f (row P j) < (bestTo f P F j).2 then (row P j, f (row P j)) else bestTo f P F j
theorem bestTo_spec {f : List Int → Int} {P : List (List Int)} {F : Int} (hF : ∀ p ∈ P, f p < F) : ∀ {j : Nat}, 0 < j → j ≤ P.length →
    (bestTo f P F j).1 ∈ P ∧ (bestTo f P F j).2 = f (bestTo f P F j).1 ∧ ∀ i, i < j → (bestTo f P F j).2 ≤ f (row P i)
  | 0, h, _ => by omega
  | j + 1, _, h => by
    rw [bestTo]
    have hj := row_mem (xss := P) (k := j) (by omega)
    by_cases hlt : f (row P j) < (bestTo f P F j).2
    · rw [if_pos hlt]
      refine ⟨hj, rfl, fun i hi => ?_⟩
      by_cases e : i = j
      · rw [e]; exact Int.le_refl _
      · have := (bestTo_spec hF (j := j) (by omega) (by omega)).2.2 i (by omega)
        show f (row P j) ≤ _
        omega
    · rw [if_neg hlt]
      rcases Nat.eq_zero_or_pos j with h0 | h0
      · subst h0
        exact absurd (hF _ hj) hlt
      · have ih := bestTo_spec hF (j := j) h0 (by omega)
        refine ⟨ih.1, ih.2.1, fun i hi => ?_⟩
        by_cases e : i = j
        · rw [e]; omega
        · exact ih.2.2 i (by omega)

/-- the cost of an order -/
def ordC (M : List (List Int)) (a b l : List Int) : Int := costL M a (pickL b l)
def matL (M : List (List Int)) (a b : List Int) : List Int := (bestTo (ordC M a b) (ordL a.length) 1073741824 (ordL a.length).length).1
def mvC (M : List (List Int)) (a b : List Int) : Int := (bestTo (ordC M a b) (ordL a.length) 1073741824 (ordL a.length).length).2
/-- a list of points below n -/
def Pts (n : Nat) (a : List Int) : Prop := ∀ x ∈ a, 0 ≤ x ∧ x < (n : Int)
theorem Pts.perm {n : Nat} {a b : List Int} (h : Pts n b) (p : a.Perm b) : Pts n a := fun x hx => h x (p.mem_iff.1 hx)
/-- what a metric gives -/
structure Dst (M : List (List Int)) (n : Nat) : Prop where
  pos : ∀ x y, x < n → y < n → 0 ≤ cell M x y ∧ cell M x y ≤ 99
  self : ∀ x, x < n → cell M x x = 0
  zero : ∀ x y, x < n → y < n → cell M x y = 0 → x = y
  symm : ∀ x y, x < n → y < n → cell M x y = cell M y x
  tri : ∀ x y z, x < n → y < n → z < n → cell M x z ≤ cell M x y + cell M y z
theorem mvC_min {M : List (List Int)} {n : Nat} (hd : Dst M n) {a b : List Int} (ha : Pts n a) (hb : Pts n b) (hl : a.length = b.length) (h3 : a.length ≤ 1000) :
    (∃ c, c.Perm b ∧ mvC M a b = costL M a c) ∧ (∀ c, c.Perm b → mvC M a b ≤ costL M a c) ∧ matL M a b ∈ ordL a.length ∧ mvC M a b = ordC M a b (matL M a b) := by
  have hne : 0 < (ordL a.length).length := List.length_pos_of_mem (ordL_ne a.length)
  have hF : ∀ p ∈ ordL a.length, ordC M a b p < 1073741824 := fun p hp => by
    have hpp := pick_perm (b := b) (hl ▸ hp)
    have := (costL_in (D := 99) hd.pos a (pickL b p) (by rw [hpp.length_eq, hl]) ha (hb.perm hpp)).2
    unfold ordC
    omega
  obtain ⟨h1, h2, h4⟩ := bestTo_spec hF hne (Nat.le_refl _)
  refine ⟨⟨pickL b (matL M a b), pick_perm (hl ▸ h1), h2⟩, fun c hc => ?_, h1, h2⟩
  obtain ⟨l, hl1, rfl⟩ := perm_pick hc
  rw [← hl] at hl1
  obtain ⟨i, hi, e⟩ := mem_iff_row.1 hl1
  have := h4 i hi
  rw [e] at this
  exact this
theorem mvC_permL {M : List (List Int)} {n : Nat} (hd : Dst M n) {a a' b : List Int} (p : a.Perm a') (ha : Pts n a) (hb : Pts n b) (hl : a.length = b.length) (h3 : a.length ≤ 1000) : mvC M a' b = mvC M a b := by
  have h1 := mvC_min hd ha hb hl h3
  have h2 := mvC_min hd (ha.perm p.symm) hb (by rw [← p.length_eq, hl]) (by rw [← p.length_eq]; exact h3)
  obtain ⟨c, hc1, hc2⟩ := h1.1
  obtain ⟨c', hc3, hc4⟩ := h2.1
  obtain ⟨e, he1, he2⟩ := costL_perm (M := M) p c (by rw [hc1.length_eq, hl])
  obtain ⟨e', he3, he4⟩ := costL_perm (M := M) p.symm c' (by rw [hc3.length_eq, ← p.length_eq, hl])
  have h5 := h2.2.1 e (he1.trans hc1)
  have h6 := h1.2.1 e' (he3.trans hc3)
  omega
theorem mvC_permR {M : List (List Int)} {n : Nat} (hd : Dst M n) {a b b' : List Int} (p : b.Perm b') (ha : Pts n a) (hb : Pts n b) (hl : a.length = b.length) (h3 : a.length ≤ 1000) : mvC M a b' = mvC M a b := by
  have h1 := mvC_min hd ha hb hl h3
  have h2 := mvC_min hd ha (hb.perm p.symm) (by rw [← p.length_eq, hl]) h3
  obtain ⟨c, hc1, hc2⟩ := h1.1
  obtain ⟨c', hc3, hc4⟩ := h2.1
  have h5 := h2.2.1 c (hc1.trans p)
  have h6 := h1.2.1 c' (hc3.trans p.symm)
  omega
theorem mvC_symm {M : List (List Int)} {n : Nat} (hd : Dst M n) {a b : List Int} (ha : Pts n a) (hb : Pts n b) (hl : a.length = b.length) (h3 : a.length ≤ 1000) : mvC M b a = mvC M a b := by
  have key : ∀ a b : List Int, Pts n a → Pts n b → a.length = b.length → a.length ≤ 1000 → mvC M b a ≤ mvC M a b := by
    intro a b ha hb hl h3
    have h1 := mvC_min hd ha hb hl h3
    have h2 := mvC_min hd hb ha hl.symm (hl ▸ h3)
    obtain ⟨c, hc1, hc2⟩ := h1.1
    have e := costL_symm hd.symm a c (by rw [hc1.length_eq, hl]) ha (hb.perm hc1)
    obtain ⟨a', p1, p2⟩ := costL_perm (M := M) hc1 a (by rw [hc1.length_eq, hl])
    have := h2.2.1 a' p1
    omega
  have h1 := key a b ha hb hl h3
  have h2 := key b a hb ha hl.symm (hl ▸ h3)
  omega
theorem mvC_tri {M : List (List Int)} {n : Nat} (hd : Dst M n) {a b c : List Int} (ha : Pts n a) (hb : Pts n b) (hc : Pts n c) (hl : a.length = b.length) (hl2 : b.length = c.length) (h3 : a.length ≤ 1000) : mvC M a c ≤ mvC M a b + mvC M b c := by
  obtain ⟨b', p1, e1⟩ := (mvC_min hd ha hb hl h3).1
  obtain ⟨c', p2, e2⟩ := (mvC_min hd hb hc hl2 (hl ▸ h3)).1
  obtain ⟨c2, p3, e3⟩ := costL_perm (M := M) p1.symm c' (by rw [p2.length_eq, hl2])
  have h1 := (mvC_min hd ha hc (hl.trans hl2) h3).2.1 c2 (p3.trans p2)
  have h2 := costL_tri hd.tri a b' c2 (by rw [p1.length_eq, hl]) (by rw [p1.length_eq, p3.length_eq, p2.length_eq, hl2]) ha (hb.perm p1) (hc.perm (p3.trans p2))
  omega
theorem mvC_in {M : List (List Int)} {n : Nat} (hd : Dst M n) {a b : List Int} (ha : Pts n a) (hb : Pts n b) (hl : a.length = b.length) (h3 : a.length ≤ 1000) : 0 ≤ mvC M a b ∧ mvC M a b ≤ 99 * a.length := by
  obtain ⟨b', p1, e1⟩ := (mvC_min hd ha hb hl h3).1
  have := costL_in (D := 99) hd.pos a b' (by rw [p1.length_eq, hl]) ha (hb.perm p1)
  omega
theorem mvC_zero {M : List (List Int)} {n : Nat} (hd : Dst M n) {a b : List Int} (ha : Pts n a) (hb : Pts n b) (hl : a.length = b.length) (h3 : a.length ≤ 1000) : mvC M a b = 0 ↔ a.Perm b := by
  constructor
  · intro h
    obtain ⟨b', p1, e1⟩ := (mvC_min hd ha hb hl h3).1
    have := costL_zero (fun x y hx hy => (hd.pos x y hx hy).1) hd.zero a b' (by rw [p1.length_eq, hl]) ha (hb.perm p1) (by omega)
    rw [this]; exact p1
  · intro p
    have h1 := (mvC_min hd ha hb hl h3).2.1 a p
    have h2 := mvC_in hd ha hb hl h3
    have h4 := costL_self hd.self a ha
    omega
/-- one point moved -/
theorem costL_set {M : List (List Int)} {n : Nat} (hd : Dst M n) : ∀ {a b : List Int} {s : Nat} {r : Int}, Pts n a → Pts n b → a.length = b.length → s < a.length → nth b s = r → costL M a b = cell M (nth a s).toNat r.toNat + costL M (a.set s r) b
  | [], b, s, r, _, _, _, h, _ => by simp at h
  | x :: a, [], s, r, _, _, h, _, _ => by simp at h
  | x :: a, y :: b, 0, r, ha, hb, hl, h, e => by
    have e' : y = r := e
    subst e'
    have h1 := hb y (by simp)
    have := hd.self y.toNat (by omega)
    show cell M x.toNat y.toNat + costL M a b = cell M x.toNat y.toNat + (cell M y.toNat y.toNat + costL M a b)
    omega
  | x :: a, y :: b, s + 1, r, ha, hb, hl, h, e => by
    have ih := costL_set hd (a := a) (b := b) (s := s) (r := r) (fun z hz => ha z (by simp [hz])) (fun z hz => hb z (by simp [hz])) (by simpa using hl) (by simpa using h) e
    show cell M x.toNat y.toNat + costL M a b = cell M (nth a s).toNat r.toNat + (cell M x.toNat y.toNat + costL M (a.set s r) b)
    omega
theorem costL_set1 {M : List (List Int)} {n : Nat} (hd : Dst M n) : ∀ {a : List Int} {s : Nat} {r : Int}, Pts n a → (0 ≤ r ∧ r < (n : Int)) → s < a.length → costL M a (a.set s r) = cell M (nth a s).toNat r.toNat
  | [], s, r, _, _, h => by simp at h
  | x :: a, 0, r, ha, hr, _ => by
    show cell M x.toNat r.toNat + costL M a a = _
    rw [costL_self hd.self a fun z hz => ha z (by simp [hz])]
    show cell M x.toNat r.toNat + 0 = cell M x.toNat r.toNat
    omega
  | x :: a, s + 1, r, ha, hr, h => by
    have ih := costL_set1 hd (a := a) (s := s) (fun z hz => ha z (by simp [hz])) hr (by simpa using h)
    have h1 := ha x (by simp)
    have := hd.self x.toNat (by omega)
    show cell M x.toNat x.toNat + costL M a (a.set s r) = cell M (nth a s).toNat r.toNat
    omega
theorem Pts.set {n : Nat} {a : List Int} {s : Nat} {r : Int} (h : Pts n a) (hr : 0 ≤ r ∧ r < (n : Int)) : Pts n (a.set s r) := fun x hx => by
  rcases List.mem_or_eq_of_mem_set hx with h1 | h1
  · exact h x h1
  · rw [h1]; exact hr
theorem mvC_set {M : List (List Int)} {n : Nat} (hd : Dst M n) {a : List Int} {s : Nat} {r : Int} (ha : Pts n a) (hr : 0 ≤ r ∧ r < (n : Int)) (hs : s < a.length) (h3 : a.length ≤ 1000) : mvC M a (a.set s r) ≤ cell M (nth a s).toNat r.toNat := by
  rw [← costL_set1 hd ha hr hs]
  exact (mvC_min hd ha (ha.set hr) (by simp) h3).2.1 _ (List.Perm.refl _)
/-- a move to a list with a point: one comes to this point -/
theorem mvC_via {M : List (List Int)} {n : Nat} (hd : Dst M n) {a b : List Int} {r : Int} (ha : Pts n a) (hb : Pts n b) (hl : a.length = b.length) (h3 : a.length ≤ 1000) (hr : r ∈ b) : ∃ s, s < a.length ∧ cell M (nth a s).toNat r.toNat + mvC M (a.set s r) b ≤ mvC M a b := by
  obtain ⟨c, p1, e1⟩ := (mvC_min hd ha hb hl h3).1
  obtain ⟨s, hs, e⟩ := mem_iff_nth.1 (p1.mem_iff.2 hr)
  rw [p1.length_eq, ← hl] at hs
  have hrr := hb r hr
  have h1 := costL_set hd ha (hb.perm p1) (by rw [p1.length_eq, hl]) hs e
  have h2 := (mvC_min hd (ha.set (s := s) hrr) hb (by simpa using hl) (by simpa using h3)).2.1 c p1
  exact ⟨s, hs, by omega⟩
end Go.Proofs.Ytohjbabjkjcddaa
