/- Distances of a tree: the condition of four points, and the least sums of ways; in plain words. -/
import Derived.Test.YtnlbjbnjjkilhaaPackA
namespace Go.Proofs.Ytnlbjbnjjkilhaa

/-- distances of the points below k of a tree: the point k hangs at the point pa k with the length le k -/
def trD (pa : Nat → Nat) (le : Nat → Int) : Nat → Nat → Nat → Int
  | 0, _, _ => 0
  | k + 1, x, y => if x = k then (if y = k then 0 else le k + trD pa le k (pa k) y) else if y = k then le k + trD pa le k x (pa k) else trD pa le k x y
section
variable {pa : Nat → Nat} {le : Nat → Int}
/-- what is asked of the tree -/
def TrOk (pa : Nat → Nat) (le : Nat → Int) (n : Nat) : Prop := ∀ k, 1 ≤ k → k < n → pa k < k ∧ 1 ≤ le k
theorem TrOk.less {n k : Nat} (h : TrOk pa le n) (hk : k ≤ n) : TrOk pa le k := fun j h1 h2 => h j h1 (by omega)
theorem trD_diag : ∀ {k x : Nat}, trD pa le k x x = 0
  | 0, _ => rfl
  | k + 1, x => by
    rw [trD]
    by_cases h : x = k
    · rw [if_pos h, if_pos h]
    · rw [if_neg h, if_neg h]
      exact trD_diag
theorem trD_symm : ∀ {k x y : Nat}, trD pa le k x y = trD pa le k y x
  | 0, _, _ => rfl
  | k + 1, x, y => by
    unfold trD
    by_cases h1 : x = k
    · by_cases h2 : y = k
      · rw [if_pos h1, if_pos h2, if_pos h2, if_pos h1]
      · rw [if_pos h1, if_neg h2, if_neg h2, if_pos h1, trD_symm]
    · by_cases h2 : y = k
      · rw [if_neg h1, if_pos h2, if_pos h2, if_neg h1, trD_symm]
      · rw [if_neg h1, if_neg h2, if_neg h2, if_neg h1, trD_symm]
/-- the point where a point hangs, and its length -/
def up (pa : Nat → Nat) (k x : Nat) : Nat := if x = k then pa k else x
def ln (le : Nat → Int) (k x : Nat) : Int := if x = k then le k else 0
theorem trD_up {k x y : Nat} (h : ¬ (x = k ∧ y = k)) : trD pa le (k + 1) x y = trD pa le k (up pa k x) (up pa k y) + ln le k x + ln le k y := by
  unfold up ln
  rw [trD]
  by_cases h1 : x = k
  · by_cases h2 : y = k
    · exact absurd ⟨h1, h2⟩ h
    · rw [if_pos h1, if_neg h2, if_pos h1, if_neg h2, if_pos h1, if_neg h2]; omega
  · by_cases h2 : y = k
    · rw [if_neg h1, if_pos h2, if_neg h1, if_pos h2, if_neg h1, if_pos h2]; omega
    · rw [if_neg h1, if_neg h2, if_neg h1, if_neg h2, if_neg h1, if_neg h2]; omega
theorem trD_le {k x y : Nat} (hl : 0 ≤ le k) : trD pa le (k + 1) x y ≤ trD pa le k (up pa k x) (up pa k y) + ln le k x + ln le k y := by
  by_cases h : x = k ∧ y = k
  · obtain ⟨rfl, rfl⟩ := h
    rw [trD_diag, trD_diag]
    unfold ln
    rw [if_pos rfl]; omega
  · rw [trD_up h]; exact Int.le_refl _
theorem up_lt {n k x : Nat} (h : TrOk pa le n) (hk : k < n) (h1 : 1 ≤ k) (hx : x < k + 1) : up pa k x < k := by
  unfold up
  split
  · exact (h k h1 hk).1
  · omega
theorem trD_pos : ∀ {n : Nat}, TrOk pa le n → ∀ x y, x < n → y < n → 0 ≤ trD pa le n x y ∧ (x ≠ y → 1 ≤ trD pa le n x y)
  | 0, _, x, _, hx, _ => by omega
  | k + 1, h, x, y, hx, hy => by
    by_cases hk : k = 0
    · have : x = y := by omega
      subst this
      rw [trD_diag]
      exact ⟨Int.le_refl _, fun h => absurd rfl h⟩
    · have ho := h k (by omega) (by omega)
      by_cases e : x = k ∧ y = k
      · obtain ⟨rfl, rfl⟩ := e
        rw [trD_diag]
        exact ⟨Int.le_refl _, fun h => absurd rfl h⟩
      · have h1 := trD_pos (h.less (Nat.le_succ k)) (up pa k x) (up pa k y) (up_lt h (by omega) (by omega) hx) (up_lt h (by omega) (by omega) hy)
        rw [trD_up e]
        unfold ln
        by_cases e1 : x = k
        · rw [if_pos e1]
          by_cases e2 : y = k
          · exact absurd ⟨e1, e2⟩ e
          · rw [if_neg e2]; exact ⟨by omega, fun _ => by omega⟩
        · rw [if_neg e1]
          by_cases e2 : y = k
          · rw [if_pos e2]; exact ⟨by omega, fun _ => by omega⟩
          · rw [if_neg e2]
            have hu1 : up pa k x = x := if_neg e1
            have hu2 : up pa k y = y := if_neg e2
            rw [hu1, hu2] at h1 ⊢
            exact ⟨by omega, fun hne => by have := h1.2 hne; omega⟩
theorem trD_tri : ∀ {n : Nat}, TrOk pa le n → ∀ x y z, x < n → y < n → z < n → trD pa le n x z ≤ trD pa le n x y + trD pa le n y z
  | 0, _, x, _, _, hx, _, _ => by omega
  | k + 1, h, x, y, z, hx, hy, hz => by
    by_cases hk : k = 0
    · rw [show x = z by omega, trD_diag]
      have h1 := (trD_pos h z y hz hy).1
      have h2 := (trD_pos h y z hy hz).1
      omega
    · have ho := h k (by omega) (by omega)
      have h1 := trD_tri (h.less (Nat.le_succ k)) (up pa k x) (up pa k y) (up pa k z) (up_lt h (by omega) (by omega) hx) (up_lt h (by omega) (by omega) hy) (up_lt h (by omega) (by omega) hz)
      have h2 := trD_le (pa := pa) (le := le) (k := k) (x := x) (y := z) (by omega)
      by_cases e1 : x = k ∧ y = k
      · obtain ⟨rfl, rfl⟩ := e1
        rw [trD_diag]; omega
      · by_cases e2 : y = k ∧ z = k
        · obtain ⟨rfl, rfl⟩ := e2
          rw [trD_diag (x := z)]; omega
        · rw [trD_up e1, trD_up e2]
          have : 0 ≤ ln le k y := by unfold ln; split <;> omega
          omega
/-- the condition of four points -/
theorem trD_four : ∀ {n : Nat}, TrOk pa le n → ∀ x y z w, x < n → y < n → z < n → w < n → trD pa le n x y + trD pa le n z w ≤ max (trD pa le n x z + trD pa le n y w) (trD pa le n x w + trD pa le n y z)
  | 0, _, x, _, _, _, hx, _, _, _ => by omega
  | k + 1, h, x, y, z, w, hx, hy, hz, hw => by
    by_cases hk : k = 0
    · rw [show x = y by omega, show z = w by omega, trD_diag, trD_diag]
      have h1 := (trD_pos h y w hy hw).1
      omega
    · have ho := h k (by omega) (by omega)
      have h1 := trD_four (h.less (Nat.le_succ k)) (up pa k x) (up pa k y) (up pa k z) (up pa k w) (up_lt h (by omega) (by omega) hx) (up_lt h (by omega) (by omega) hy) (up_lt h (by omega) (by omega) hz) (up_lt h (by omega) (by omega) hw)
      have h2 := trD_le (pa := pa) (le := le) (k := k) (x := x) (y := y) (by omega)
      have h3 := trD_le (pa := pa) (le := le) (k := k) (x := z) (y := w) (by omega)
      by_cases e1 : x = k ∧ z = k
      · rw [e1.1, e1.2, trD_symm (x := y) (y := k)]; omega
      by_cases e2 : y = k ∧ w = k
      · rw [e2.1, e2.2, trD_symm (x := z) (y := k)]; omega
      by_cases e3 : x = k ∧ w = k
      · rw [e3.1, e3.2, trD_symm (x := y) (y := k), trD_symm (x := z) (y := k)]; omega
      by_cases e4 : y = k ∧ z = k
      · rw [e4.1, e4.2]; omega
      rw [trD_up e1, trD_up e2, trD_up e3, trD_up e4]
      omega
/-- a point on the way from one to another -/
def Onw (D : Nat → Nat → Int) (x y z : Nat) : Prop := D x y + D y z = D x z
/-- two points without one between them are joined by an edge -/
theorem trD_edge : ∀ {n : Nat}, TrOk pa le n → ∀ x z, x < n → z < n → z < x → trD pa le n x (pa x) = le x ∧ Onw (trD pa le n) x (pa x) z
  | 0, _, x, _, hx, _, _ => by omega
  | k + 1, h, x, z, hx, hz, hlt => by
    have ho := h x (by omega) hx
    by_cases e : x = k
    · subst e
      have h1 : trD pa le (x + 1) x (pa x) = le x := by
        rw [trD, if_pos rfl, if_neg (by omega), trD_diag]; omega
      refine ⟨h1, ?_⟩
      unfold Onw
      rw [h1, trD, if_neg (by omega), if_neg (by omega), trD, if_pos rfl, if_neg (by omega)]
    · have ih := trD_edge (h.less (Nat.le_succ k)) x z (by omega) (by omega) hlt
      have e1 : ∀ u v, u < k → v < k → trD pa le (k + 1) u v = trD pa le k u v := fun u v hu hv => by rw [trD, if_neg (by omega), if_neg (by omega)]
      unfold Onw at ih ⊢
      rw [e1 x (pa x) (by omega) (by omega), e1 (pa x) z (by omega) (by omega), e1 x z (by omega) (by omega)]
      exact ih
end

/-- distances of points below n -/
structure MtD (T : Nat → Nat → Int) (n : Nat) : Prop where
  diag : ∀ x, x < n → T x x = 0
  symm : ∀ x y, x < n → y < n → T x y = T y x
  pos : ∀ x y, x < n → y < n → x ≠ y → 1 ≤ T x y
  tri : ∀ x y z, x < n → y < n → z < n → T x z ≤ T x y + T y z
/-- what is between two points -/
def Btw (T : Nat → Nat → Int) (n u v k : Nat) : Prop := ∀ q, q < n → q ≠ u → q ≠ v → Onw T u q v → q < k
/-- the least sums, as far as the ways over the points below y are known, and those over y up to the pair x, z -/
structure FW (T : Nat → Nat → Int) (n y x z : Nat) (D : Nat → Nat → Int) : Prop where
  low : ∀ u v, u < n → v < n → T u v ≤ D u v
  up : ∀ u v, u < n → v < n → Btw T n u v y → D u v ≤ T u v
  cur : ∀ u v, u < n → v < n → (u < x ∨ (u = x ∧ v < z)) → Btw T n u v (y + 1) → D u v ≤ T u v
section
variable {T D : Nat → Nat → Int} {n x y z : Nat}
theorem FW.begin (h1 : ∀ u v, u < n → v < n → T u v ≤ D u v) (h2 : ∀ u v, u < n → v < n → Btw T n u v 0 → D u v ≤ T u v) : FW T n 0 0 0 D :=
  ⟨h1, h2, fun u v _ _ h => by omega⟩
theorem FW.row (h : FW T n y x n D) : FW T n y (x + 1) 0 D := ⟨h.low, h.up, fun u v hu hv hc => h.cur u v hu hv (by omega)⟩
theorem FW.next (h : FW T n y n 0 D) : FW T n (y + 1) 0 0 D := ⟨h.low, fun u v hu hv hb => h.cur u v hu hv (by omega) hb, fun u v _ _ h => by omega⟩
theorem FW.fin (h : FW T n n 0 0 D) : ∀ u v, u < n → v < n → D u v = T u v := fun u v hu hv => by
  have h1 := h.low u v hu hv
  have h2 := h.up u v hu hv (fun q hq _ _ _ => hq)
  omega
theorem FW.step (hT : MtD T n) (h : FW T n y x z D) (hx : x < n) (hy : y < n) (hz : z < n) {D' : Nat → Nat → Int} (hD : D' x z = min (D x z) (D x y + D y z)) (ho : ∀ u v, ¬ (u = x ∧ v = z) → D' u v = D u v) : FW T n y x (z + 1) D' := by
  have hle : ∀ u v, u < n → v < n → D' u v ≤ D u v := by
    intro u v hu hv
    by_cases e : u = x ∧ v = z
    · rw [e.1, e.2, hD]; omega
    · rw [ho u v e]; exact Int.le_refl _
  refine ⟨fun u v hu hv => ?_, fun u v hu hv hb => Int.le_trans (hle u v hu hv) (h.up u v hu hv hb), fun u v hu hv hc hb => ?_⟩
  · by_cases e : u = x ∧ v = z
    · rw [e.1, e.2, hD]
      have h1 := h.low x z hx hz
      have h2 := h.low x y hx hy
      have h3 := h.low y z hy hz
      have h4 := hT.tri x y z hx hy hz
      omega
    · rw [ho u v e]; exact h.low u v hu hv
  · by_cases e : u = x ∧ v = z
    · obtain ⟨rfl, rfl⟩ := e
      rw [hD]
      by_cases hi : y ≠ u ∧ y ≠ v ∧ Onw T u y v
      · obtain ⟨h1, h2, h3⟩ := hi
        have a1 : D u y ≤ T u y := h.up u y hu hy fun q hq hqu hqy hon => by
          have hon' : Onw T u q v := by
            unfold Onw at *
            have t1 := hT.tri q y v hq hy hv
            have t2 := hT.tri u q v hu hq hv
            omega
          have hqv : q ≠ v := fun e => by
            subst e
            unfold Onw at *
            have t1 := hT.pos y q hy hq h2
            have t2 := hT.symm y q hy hq
            omega
          have := hb q hq hqu hqv hon'
          omega
        have a2 : D y v ≤ T y v := h.up y v hy hv fun q hq hqy hqv hon => by
          have hon' : Onw T u q v := by
            unfold Onw at *
            have t1 := hT.tri u y q hu hy hq
            have t2 := hT.tri u q v hu hq hv
            omega
          have hqu : q ≠ u := fun e => by
            subst e
            unfold Onw at *
            have t1 := hT.pos y q hy hq h1
            have t2 := hT.symm y q hy hq
            omega
          have := hb q hq hqu hqv hon'
          omega
        unfold Onw at h3
        omega
      · have := h.up u v hu hv fun q hq hqu hqv hon => by
          have h1 := hb q hq hqu hqv hon
          by_cases e : q = y
          · subst e
            exact absurd ⟨hqu, hqv, hon⟩ hi
          · omega
        omega
    · rw [ho u v e]
      exact h.cur u v hu hv (by omega) hb
/-- the distances of a tree -/
theorem trD_mt {pa : Nat → Nat} {le : Nat → Int} (h : TrOk pa le n) : MtD (trD pa le n) n :=
  ⟨fun _ _ => trD_diag, fun _ _ _ _ => trD_symm, fun x y hx hy hne => (trD_pos h x y hx hy).2 hne, fun x y z hx hy hz => trD_tri h x y z hx hy hz⟩
/-- the table of the edges of a tree -/
theorem FW.tree {pa : Nat → Nat} {le : Nat → Int} {far : Int} (h : TrOk pa le n) (hfar : ∀ u v, u < n → v < n → trD pa le n u v ≤ far)
    (hd : ∀ u v, u < n → v < n → D u v = if u = v then 0 else if v < u ∧ pa u = v then le u else if u < v ∧ pa v = u then le v else far) : FW (trD pa le n) n 0 0 0 D := by
  refine FW.begin (fun u v hu hv => ?_) (fun u v hu hv hb => ?_)
  · rw [hd u v hu hv]
    split
    · rename_i e; rw [e, trD_diag]; exact Int.le_refl _
    · split
      · rename_i e
        have := (trD_edge h u v hu hv e.1).1
        rw [e.2] at this
        omega
      · split
        · rename_i e
          have := (trD_edge h v u hv hu e.1).1
          rw [e.2] at this
          rw [trD_symm]
          omega
        · exact hfar u v hu hv
  · rw [hd u v hu hv]
    have key : ∀ a b, a < n → b < n → b < a → (∀ q, q < n → q ≠ a → q ≠ b → Onw (trD pa le n) a q b → q < 0) → pa a = b ∧ trD pa le n a b = le a := by
      intro a b ha hb' hlt hbt
      obtain ⟨h1, h2⟩ := trD_edge h a b ha hb' hlt
      have hp := (h a (by omega) ha).1
      by_cases e : pa a = b
      · rw [e] at h1
        exact ⟨e, h1⟩
      · have := hbt (pa a) (by omega) (by omega) e h2
        omega
    split
    · rename_i e; rw [e, trD_diag]; exact Int.le_refl _
    · rename_i hne
      rcases Nat.lt_or_gt_of_ne hne with hlt | hlt
      · obtain ⟨k1, k2⟩ := key v u hv hu hlt fun q hq h1 h2 hon => hb q hq h2 h1 (by
          unfold Onw at *
          rw [trD_symm (x := u) (y := q), trD_symm (x := q) (y := v), trD_symm (x := u) (y := v)]
          omega)
        rw [if_neg (by omega), if_pos ⟨hlt, k1⟩, trD_symm, k2]
        exact Int.le_refl _
      · obtain ⟨k1, k2⟩ := key u v hu hv hlt hb
        rw [if_pos ⟨hlt, k1⟩, k2]
        exact Int.le_refl _
end
theorem line_four (p : Nat → Int) (x y z w : Nat) : max (p x - p y) (p y - p x) + max (p z - p w) (p w - p z) ≤ max (max (p x - p z) (p z - p x) + max (p y - p w) (p w - p y)) (max (p x - p w) (p w - p x) + max (p y - p z) (p z - p y)) := by omega
/-- the greatest two of three sums are the same just if none is greater than both others -/
theorem four_max {a b c : Int} (h1 : a ≤ max b c) (h2 : b ≤ max a c) (h3 : c ≤ max a b) (s : List Int) (hs : s.Perm [a, b, c]) (ho : ∀ i j, i < j → j < 3 → s.getD i 0 ≤ s.getD j 0) : s.getD 1 0 = s.getD 2 0 := by
  have hl := hs.length_eq
  match s, hl with
  | [x, y, z], _ =>
    have o1 : x ≤ y := ho 0 1 (by omega) (by omega)
    have o2 : y ≤ z := ho 1 2 (by omega) (by omega)
    have hx : x ∈ [a, b, c] := hs.mem_iff.1 (by simp)
    have hy : y ∈ [a, b, c] := hs.mem_iff.1 (by simp)
    have hz : z ∈ [a, b, c] := hs.mem_iff.1 (by simp)
    have ha : a ∈ [x, y, z] := hs.mem_iff.2 (by simp)
    have hb : b ∈ [x, y, z] := hs.mem_iff.2 (by simp)
    have hc : c ∈ [x, y, z] := hs.mem_iff.2 (by simp)
    have hsum : x + y + z = a + b + c := by
      have h : ∀ {l l' : List Int}, l.Perm l' → l.sum = l'.sum := by
        intro l l' h
        induction h with
        | nil => rfl
        | cons _ _ ih => simp [ih]
        | swap _ _ _ => simp; omega
        | trans _ _ i1 i2 => exact i1.trans i2
      have := h hs
      simp at this
      omega
    simp at hx hy hz ha hb hc
    show y = z
    omega
end Go.Proofs.Ytnlbjbnjjkilhaa
