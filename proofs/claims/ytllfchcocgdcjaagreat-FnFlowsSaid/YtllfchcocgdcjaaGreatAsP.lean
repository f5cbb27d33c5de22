/- Best matchings of rows and columns, prices and rents that pay for them: plain words. -/
import Derived.Test.YtllfchcocgdcjaaGreatMbP
namespace Go.Proofs.YtllfchcocgdcjaaGreat
open Go.RowKit

/-- sums: laws -/
theorem sg_le {f g : Nat → Int} : ∀ {n : Nat}, (∀ i, i < n → f i ≤ g i) → sgTo f n ≤ sgTo g n
  | 0, _ => Int.le_refl _
  | n + 1, h => by
    have h1 := sg_le (n := n) fun i hi => h i (by omega)
    have h2 := h n (by omega)
    rw [sgTo, sgTo]; omega
theorem sg_sub (f g : Nat → Int) : ∀ n : Nat, sgTo (fun i => f i - g i) n = sgTo f n - sgTo g n
  | 0 => rfl
  | n + 1 => by rw [sgTo, sgTo, sgTo, sg_sub f g n]; omega
theorem sg_zero {f : Nat → Int} : ∀ {n : Nat}, (∀ i, i < n → f i = 0) → sgTo f n = 0
  | 0, _ => rfl
  | n + 1, h => by rw [sgTo, sg_zero (n := n) fun i hi => h i (by omega), h n (by omega)]; rfl
theorem sg_nn {f : Nat → Int} {n : Nat} (h : ∀ i, i < n → 0 ≤ f i) : 0 ≤ sgTo f n := by
  have := sg_le (f := fun _ => 0) (g := f) (n := n) h
  rw [sg_zero (f := fun _ => 0) (fun _ _ => rfl)] at this
  exact this
/-- a sum of numbers that are none below 0 is 0 only if all are -/
theorem sg_all {f : Nat → Int} : ∀ {n : Nat}, (∀ i, i < n → 0 ≤ f i) → sgTo f n ≤ 0 → ∀ i, i < n → f i = 0
  | 0, _, _, i, hi => by omega
  | n + 1, h, hs, i, hi => by
    have h1 := sg_nn (f := f) (n := n) fun i hi => h i (by omega)
    have h2 := h n (by omega)
    rw [sgTo] at hs
    by_cases e : i = n
    · rw [e]; omega
    · exact sg_all (n := n) (fun i hi => h i (by omega)) (by omega) i (by omega)
/-- a number of a sum changed -/
theorem sg_upd (f : Nat → Int) (a : Nat) (x : Int) : ∀ n : Nat, sgTo (fun i => if i = a then x else f i) n = sgTo f n + (if a < n then x - f a else 0)
  | 0 => rfl
  | n + 1 => by
    rw [sgTo, sgTo, sg_upd f a x n]
    by_cases e : n = a
    · subst e
      rw [if_pos rfl, if_neg (by omega), if_pos (by omega)]; omega
    · rw [if_neg e]
      by_cases h : a < n
      · rw [if_pos h, if_pos (by omega)]; omega
      · rw [if_neg h, if_neg (by omega)]; omega

/-- a matching: each of n rows has a column of its own below m that it may have -/
def Mtc (A : Nat → Nat → Prop) (n m : Nat) (f : Nat → Nat) : Prop := (∀ i, i < n → f i < m ∧ A i (f i)) ∧ ∀ i j, i < n → j < n → f i = f j → i = j
/-- prices and rents -/
def Dual (A : Nat → Nat → Prop) (c : Nat → Nat → Int) (n m : Nat) (p q : Nat → Int) : Prop := (∀ l, l < m → 0 ≤ q l) ∧ ∀ i l, i < n → l < m → A i l → p i - q l ≤ c i l
/-- prices and rents that pay for a matching -/
def Cert (A : Nat → Nat → Prop) (c : Nat → Nat → Int) (n m : Nat) (f : Nat → Nat) (p q : Nat → Int) : Prop :=
  Dual A c n m p q ∧ (∀ i, i < n → p i - q (f i) = c i (f i)) ∧ ∀ l, l < m → (∀ i, i < n → f i ≠ l) → q l = 0
def mcost (c : Nat → Nat → Int) (f : Nat → Nat) (n : Nat) : Int := sgTo (fun i => c i (f i)) n
def dval (p q : Nat → Int) (n m : Nat) : Int := sgTo p n - sgTo q m
/-- the sum over the columns that are had, and what is left -/
theorem sg_inj {f : Nat → Nat} {m : Nat} : ∀ {n : Nat} {q : Nat → Int}, (∀ i, i < n → f i < m) → (∀ i j, i < n → j < n → f i = f j → i = j) → (∀ l, l < m → 0 ≤ q l) →
    sgTo (fun i => q (f i)) n ≤ sgTo q m ∧ ((∀ l, l < m → (∀ i, i < n → f i ≠ l) → q l = 0) → sgTo (fun i => q (f i)) n = sgTo q m)
  | 0, q, _, _, hq => ⟨sg_nn hq, fun h => (sg_zero fun l hl => h l hl fun i hi => by omega).symm⟩
  | n + 1, q, hf, hi, hq => by
    have hn := hf n (by omega)
    obtain ⟨h1, h2⟩ := sg_inj (f := f) (m := m) (n := n) (q := fun l => if l = f n then 0 else q l) (fun i h => hf i (by omega)) (fun i j h1 h2 => hi i j (by omega) (by omega)) (fun l hl => by
      by_cases e : l = f n
      · simp [e]
      · simp [e, hq l hl])
    have e1 : sgTo (fun i => if f i = f n then 0 else q (f i)) n = sgTo (fun i => q (f i)) n := sgTo_congr fun i hin => if_neg fun e => by have := hi i n (by omega) (by omega) e; omega
    have e2 := sg_upd q (f n) 0 m
    rw [if_pos hn] at e2
    have e1' : sgTo (fun i => (fun l => if l = f n then 0 else q l) (f i)) n = sgTo (fun i => q (f i)) n := e1
    rw [e1', e2] at h1 h2
    refine ⟨by rw [sgTo]; omega, fun h => ?_⟩
    have h3 := h2 fun l hl hne => by
      by_cases e : l = f n
      · simp [e]
      · simp only [e, if_false]
        exact h l hl fun i hi' => by
          by_cases e2 : i = n
          · rw [e2]; exact fun h => e h.symm
          · exact hne i (by omega)
    rw [sgTo]; omega
/-- no rent of a column that nobody has is more than what is left -/
theorem sg_left {f : Nat → Nat} {m n : Nat} {q : Nat → Int} (hf : ∀ i, i < n → f i < m) (hi : ∀ i j, i < n → j < n → f i = f j → i = j) (hq : ∀ l, l < m → 0 ≤ q l) {l : Nat} (hl : l < m) (hne : ∀ i, i < n → f i ≠ l) :
    q l ≤ sgTo q m - sgTo (fun i => q (f i)) n := by
  have h1 := (sg_inj (f := f) (m := m) (n := n) (q := fun x => if x = l then 0 else q x) hf hi (fun x hx => by
    by_cases e : x = l
    · simp [e]
    · simp [e, hq x hx])).1
  have e1 : sgTo (fun i => (fun x => if x = l then 0 else q x) (f i)) n = sgTo (fun i => q (f i)) n := sgTo_congr fun i hin => if_neg (hne i hin)
  have e2 := sg_upd q l 0 m
  rw [if_pos hl] at e2
  rw [e1, e2] at h1
  omega
section
variable {A : Nat → Nat → Prop} {c : Nat → Nat → Int} {n m : Nat} {f g : Nat → Nat} {p q p' q' : Nat → Int}
/-- weak duality -/
theorem weak (hg : Mtc A n m g) (hd : Dual A c n m p q) : dval p q n m ≤ mcost c g n := by
  have h1 := (sg_inj (q := q) (fun i hi => (hg.1 i hi).1) hg.2 hd.1).1
  have h2 := sg_le (f := fun i => p i - q (g i)) (g := fun i => c i (g i)) (n := n) fun i hi => hd.2 i (g i) hi (hg.1 i hi).1 (hg.1 i hi).2
  rw [sg_sub] at h2
  unfold dval mcost
  omega
theorem Cert.val (hf : Mtc A n m f) (hc : Cert A c n m f p q) : dval p q n m = mcost c f n := by
  obtain ⟨hd, ht, hz⟩ := hc
  have h1 := (sg_inj (q := q) (fun i hi => (hf.1 i hi).1) hf.2 hd.1).2 hz
  have h2 : mcost c f n = sgTo (fun i => p i - q (f i)) n := sgTo_congr fun i hi => (ht i hi).symm
  rw [sg_sub, h1] at h2
  rw [h2]; rfl
theorem Cert.opt (hf : Mtc A n m f) (hc : Cert A c n m f p q) (hg : Mtc A n m g) : mcost c f n ≤ mcost c g n := by
  rw [← hc.val hf]; exact weak hg hc.1
/-- prices and rents of the value of a matching pay for it -/
theorem slack (hg : Mtc A n m g) (hd : Dual A c n m p q) (h : mcost c g n ≤ dval p q n m) : Cert A c n m g p q := by
  have h1 := (sg_inj (q := q) (fun i hi => (hg.1 i hi).1) hg.2 hd.1).1
  have h2 : ∀ i, i < n → 0 ≤ c i (g i) - (p i - q (g i)) := fun i hi => by have := hd.2 i (g i) hi (hg.1 i hi).1 (hg.1 i hi).2; omega
  have h3 := sg_nn h2
  have e1 : sgTo (fun i => c i (g i) - (p i - q (g i))) n = mcost c g n - (sgTo p n - sgTo (fun i => q (g i)) n) := by
    rw [sg_sub, sg_sub]; rfl
  unfold dval at h
  refine ⟨hd, fun i hi => ?_, fun l hl hne => ?_⟩
  · have := sg_all h2 (by omega) i hi
    omega
  · have := sg_left (q := q) (fun i hi => (hg.1 i hi).1) hg.2 hd.1 hl hne
    have := hd.1 l hl
    omega
/-- what pays for one matching pays for all of its cost -/
theorem Cert.move (hf : Mtc A n m f) (hg : Mtc A n m g) (hc : Cert A c n m f p q) (h : mcost c g n ≤ mcost c f n) : Cert A c n m g p q :=
  slack hg hc.1 (by rw [hc.val hf]; exact h)
/-- the rent of a column -/
def rentOf (a : Nat → Nat → Bool) (c : Nat → Nat → Int) (p : Nat → Int) (l : Nat) : Nat → Int
  | 0 => 0
  | n + 1 => let r := rentOf a c p l n; if a n l then max r (p n - c n l) else r
theorem rent_ge {a : Nat → Nat → Bool} {l : Nat} : ∀ {n : Nat}, 0 ≤ rentOf a c p l n ∧ ∀ i, i < n → a i l = true → p i - c i l ≤ rentOf a c p l n
  | 0 => ⟨Int.le_refl _, fun i hi => by omega⟩
  | n + 1 => by
    obtain ⟨h1, h2⟩ := rent_ge (a := a) (l := l) (n := n)
    simp only [rentOf]
    by_cases e : a n l = true
    · rw [if_pos e]
      refine ⟨by omega, fun i hi ha => ?_⟩
      by_cases e2 : i = n
      · rw [e2]; omega
      · have := h2 i (by omega) ha; omega
    · rw [if_neg e]
      refine ⟨h1, fun i hi ha => ?_⟩
      by_cases e2 : i = n
      · rw [e2] at ha; exact absurd ha e
      · exact h2 i (by omega) ha
theorem rent_le {a : Nat → Nat → Bool} {l : Nat} {y : Int} (hy : 0 ≤ y) : ∀ {n : Nat}, (∀ i, i < n → a i l = true → p i - c i l ≤ y) → rentOf a c p l n ≤ y
  | 0, _ => hy
  | n + 1, h => by
    have h1 := rent_le hy (n := n) fun i hi => h i (by omega)
    simp only [rentOf]
    by_cases e : a n l = true
    · rw [if_pos e]; have := h n (by omega) e; omega
    · rw [if_neg e]; exact h1
theorem rent_dual (a : Nat → Nat → Bool) : Dual (fun i l => a i l = true) c n m p (fun l => rentOf a c p l n) :=
  ⟨fun _ _ => rent_ge.1, fun i l hi _ ha => by
    have := (rent_ge (c := c) (p := p) (n := n) (a := a) (l := l)).2 i hi ha
    show p i - rentOf a c p l n ≤ c i l
    omega⟩
/-- the least prices that pay for a matching -/
def Low (A : Nat → Nat → Prop) (c : Nat → Nat → Int) (n m : Nat) (f : Nat → Nat) (p : Nat → Int) : Prop :=
  (∃ q, Cert A c n m f p q) ∧ ∀ p' q', Cert A c n m f p' q' → ∀ i, i < n → p i ≤ p' i
theorem low_uni (hf : Mtc A n m f) (hg : Mtc A n m g) (h1 : Low A c n m f p) (h2 : Low A c n m g p') : ∀ i, i < n → p i = p' i := by
  obtain ⟨⟨q, hc⟩, hl⟩ := h1
  obtain ⟨⟨q', hc'⟩, hl'⟩ := h2
  have e1 := hc.opt hf hg
  have e2 := hc'.opt hg hf
  intro i hi
  have := hl _ _ (hc'.move hg hf e1) i hi
  have := hl' _ _ (hc.move hf hg e2) i hi
  omega
/-- with rents as small as they can be, the same prices pay -/
theorem cert_rent {a : Nat → Nat → Bool} (hf : Mtc (fun i l => a i l = true) n m f) (hc : Cert (fun i l => a i l = true) c n m f p q) : Cert (fun i l => a i l = true) c n m f p (fun l => rentOf a c p l n) := by
  obtain ⟨hd, ht, hz⟩ := hc
  have hle : ∀ l, l < m → rentOf a c p l n ≤ q l := fun l hl => rent_le (hd.1 l hl) fun i hi ha => by have := hd.2 i l hi hl ha; omega
  refine ⟨rent_dual a, fun i hi => ?_, fun l hl hne => ?_⟩
  · have h1 := hle (f i) (hf.1 i hi).1
    have h2 := (rent_ge (c := c) (p := p) (n := n) (a := a) (l := f i)).2 i hi (hf.1 i hi).2
    have h3 := ht i hi
    show p i - rentOf a c p (f i) n = c i (f i)
    omega
  · have h1 := hle l hl
    rw [hz l hl hne] at h1
    have := (rent_ge (c := c) (p := p) (n := n) (a := a) (l := l)).1
    show rentOf a c p l n = 0
    omega
/-- the program's rounds end at the least prices: above what the matching's rent says, below all that pay, no step left -/
theorem low_prog {a : Nat → Nat → Bool} (hf : Mtc (fun i l => a i l = true) n m f) (hc : Cert (fun i l => a i l = true) c n m f p' q')
    (h0 : ∀ i, i < n → c i (f i) ≤ p i) (hl : ∀ p' q', Cert (fun i l => a i l = true) c n m f p' q' → ∀ i, i < n → p i ≤ p' i)
    (hs : ∀ i j, i < n → j < n → a j (f i) = true → p j - c j (f i) + c i (f i) ≤ p i) : Low (fun i l => a i l = true) c n m f p := by
  refine ⟨⟨fun l => rentOf a c p l n, rent_dual a, fun i hi => ?_, fun l hm hne => ?_⟩, hl⟩
  · have h1 := (rent_ge (c := c) (p := p) (n := n) (a := a) (l := f i)).2 i hi (hf.1 i hi).2
    have h2 : rentOf a c p (f i) n ≤ p i - c i (f i) := rent_le (by have := h0 i hi; omega) fun j hj ha => by have := hs i j hi hj ha; omega
    show p i - rentOf a c p (f i) n = c i (f i)
    omega
  · have h1 : rentOf a c p l n ≤ 0 := rent_le (Int.le_refl _) fun j hj ha => by
      have h2 := hl p' q' hc j hj
      have h3 := hc.1.2 j l hj hm ha
      rw [hc.2.2 l hm hne] at h3
      omega
    have := (rent_ge (c := c) (p := p) (n := n) (a := a) (l := l)).1
    show rentOf a c p l n = 0
    omega
/-- a step of the program's rounds stays below what pays -/
theorem prog_step (hc : Cert A c n m f p' q') (hf : Mtc A n m f) {i j : Nat} (hi : i < n) (hj : j < n) (ha : A j (f i)) {x : Int} (hx : x ≤ p' j) : x - c j (f i) + c i (f i) ≤ p' i := by
  have h1 := hc.1.2 j (f i) hj (hf.1 i hi).1 ha
  have h2 := hc.2.1 i hi
  omega
theorem cert_ge (hc : Cert A c n m f p q) (hf : Mtc A n m f) {i : Nat} (hi : i < n) : c i (f i) ≤ p i := by
  have := hc.1.1 (f i) (hf.1 i hi).1
  have := hc.2.1 i hi
  omega
/-- the reference's rounds end at the least prices -/
theorem low_ref {r : Nat → Int} (hc : Cert A c n m f p' q') (h0 : ∀ l, l < m → 0 ≤ r l)
    (hl : ∀ p' q', Cert A c n m f p' q' → (∀ i, i < n → p i ≤ p' i) ∧ ∀ l, l < m → r l ≤ q' l)
    (he : ∀ i, i < n → p i = r (f i) + c i (f i) ∧ ∀ l, l < m → A i l → p i - c i l ≤ r l) : Low A c n m f p ∧ Cert A c n m f p r := by
  have hcr : Cert A c n m f p r := ⟨⟨h0, fun i l hi hm ha => by have := (he i hi).2 l hm ha; omega⟩, fun i hi => by have := (he i hi).1; omega, fun l hm hne => by
    have h1 := (hl p' q' hc).2 l hm
    rw [hc.2.2 l hm hne] at h1
    have := h0 l hm
    omega⟩
  exact ⟨⟨⟨r, hcr⟩, fun p' q' h => (hl p' q' h).1⟩, hcr⟩
end
end Go.Proofs.YtllfchcocgdcjaaGreat
