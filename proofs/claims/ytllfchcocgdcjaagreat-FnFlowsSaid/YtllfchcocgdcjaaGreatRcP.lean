/- The reference's way to best matchings, in plain words: holders, the rounds of the least changes, the choice. -/
import Derived.Test.YtllfchcocgdcjaaGreatLpP
import Derived.Test.YtllfchcocgdcjaaGreatAsH
namespace Go.Proofs.YtllfchcocgdcjaaGreat
open Go.RowKit

/-- who holds a column among the first rows, or -1 -/
def hol (f : Nat → Nat) : Nat → Nat → Int
  | 0, _ => -1
  | i + 1, l => if l = f i then (i : Int) else hol f i l
theorem hol_or {f : Nat → Nat} {l : Nat} : ∀ {i : Nat}, (∃ y : Nat, y < i ∧ f y = l ∧ hol f i l = (y : Int)) ∨ (hol f i l = -1 ∧ ∀ y, y < i → f y ≠ l)
  | 0 => Or.inr ⟨rfl, fun y hy => by omega⟩
  | i + 1 => by
    by_cases e : l = f i
    · exact Or.inl ⟨i, by omega, e.symm, by rw [hol, if_pos e]⟩
    · rcases hol_or (f := f) (l := l) (i := i) with ⟨y, h1, h2, h3⟩ | ⟨h1, h2⟩
      · exact Or.inl ⟨y, by omega, h2, by rw [hol, if_neg e, h3]⟩
      · exact Or.inr ⟨by rw [hol, if_neg e, h1], fun y hy => by
          by_cases e2 : y = i
          · rw [e2]; exact fun h => e h.symm
          · exact h2 y (by omega)⟩
/-- the numbers of a matching as a list -/
def lsN (i : Nat) (f : Nat → Nat) : List Int := (List.range i).map fun r => (f r : Int)
theorem lsN_len (i : Nat) (f : Nat → Nat) : (lsN i f).length = i := by simp [lsN]
theorem lsN_at {i : Nat} {f : Nat → Nat} {r : Nat} (h : r < i) : nth (lsN i f) r = (f r : Int) := by simp [lsN, nth, h]
/-- what stays fixed while the least changes are looked for -/
structure Rk (k : Nat) (c : Nat → Nat → Int) (f : Nat → Nat) (i m : Nat) (p q : Nat → Int) : Prop where
  mt : Mtc (Al k) i m f
  ct : Cert (Al k) c i m f p q
  cb : ∀ x l, x ≤ i → alB k x l = true → 0 ≤ c x l ∧ c x l ≤ 99
  pb : ∀ x, x < i → p x ≤ 99 * (i : Int)
  ib : i ≤ 60
theorem BF.init {k : Nat} {c : Nat → Nat → Int} {f : Nat → Nat} {i : Nat} {fr : Nat → Nat} : BF (alB k) c f i 1099511627776 (fun x => if x < i then 1099511627776 else 0) fr := by
  have h0 : ∀ x, x < i → ¬ (if x < i then (1099511627776 : Int) else 0) < 1099511627776 := fun x hx => by rw [if_pos hx]; omega
  refine ⟨if_neg (by omega), fun x _ => ?_, fun x hx h => ?_, fun x hx h => absurd h (h0 x hx), fun x hx h => ?_⟩
  · show (if x < i then (1099511627776 : Int) else 0) ≤ _
    split <;> omega
  · by_cases e : x < i
    · exact absurd h (h0 x e)
    · have : x = i := by omega
      rw [this]; exact ⟨0, .base⟩
  · by_cases e : x < i
    · exact absurd h (h0 x e)
    · show (if x < i then (1099511627776 : Int) else 0) ≤ _
      rw [if_neg e]
      have := sg_nn (f := fun y => if (if y < i then (1099511627776 : Int) else 0) < 1099511627776 then (1 : Int) else 0) (n := i) fun y _ => by
        show 0 ≤ if (if y < i then (1099511627776 : Int) else 0) < 1099511627776 then (1 : Int) else 0
        split <;> omega
      omega
/-- a round: changes fa0 at its begin, fa now, scanned to the row x and its column l -/
structure Rs (k : Nat) (c : Nat → Nat → Int) (f : Nat → Nat) (i : Nat) (fa0 fa : Nat → Int) (fr : Nat → Nat) (ch : Bool) (x l : Nat) : Prop where
  bf : BF (alB k) c f i 1099511627776 fa fr
  le : sgTo fa i ≤ sgTo fa0 i
  lt : ch = true → sgTo fa i < sgTo fa0 i
  fix : ch = false → ∀ x' y, x' ≤ i → y < i → alB k x' (f y) = true → (x' < x ∨ (x' = x ∧ f y < l)) → fa x' < 1099511627776 → fa y ≤ fa x' + c x' (f y) - c y (f y)
section
variable {k : Nat} {c : Nat → Nat → Int} {f : Nat → Nat} {i m : Nat} {p q fa0 fa : Nat → Int} {fr : Nat → Nat} {ch : Bool} {x l : Nat}
theorem Rs.begin (h : BF (alB k) c f i 1099511627776 fa fr) : Rs k c f i fa fa fr false 0 0 :=
  ⟨h, Int.le_refl _, (fun h => by cases h), fun _ x' y _ _ _ h => by omega⟩
theorem Rs.row (h : Rs k c f i fa0 fa fr ch x l) (he : k + x ≤ l ∨ 1099511627776 ≤ fa x) : Rs k c f i fa0 fa fr ch (x + 1) 0 :=
  ⟨h.bf, h.le, h.lt, fun hc x' y h1 h2 ha h3 hz => by
    by_cases e : x' < x
    · exact h.fix hc x' y h1 h2 ha (Or.inl e) hz
    · have ex : x' = x := by omega
      rw [ex] at ha hz h1 ⊢
      rcases he with he | he
      · exact h.fix hc x y h1 h2 ha (Or.inr ⟨rfl, by have := alB_iff.1 ha; omega⟩) hz
      · omega⟩
theorem Rs.free (h : Rs k c f i fa0 fa fr ch x l) (hf : ∀ y, y < i → f y ≠ l) : Rs k c f i fa0 fa fr ch x (l + 1) :=
  ⟨h.bf, h.le, h.lt, fun hc x' y h1 h2 ha h3 hz => h.fix hc x' y h1 h2 ha (by have := hf y h2; omega) hz⟩
theorem Rs.same (hk : Rk k c f i m p q) (h : Rs k c f i fa0 fa fr ch x l) {y : Nat} (hy : y < i) (hfy : f y = l) (hs : fa y ≤ fa x + c x l - c y l) : Rs k c f i fa0 fa fr ch x (l + 1) :=
  ⟨h.bf, h.le, h.lt, fun hc x' y' h1 h2 ha h3 hz => by
    by_cases e : x' = x ∧ f y' = l
    · obtain ⟨e1, e2⟩ := e
      have : y' = y := hk.mt.2 y' y h2 hy (by rw [e2, hfy])
      rw [e1, this, hfy]; exact hs
    · exact h.fix hc x' y' h1 h2 ha (by omega) hz⟩
theorem Rs.relax (hk : Rk k c f i m p q) (h : Rs k c f i fa0 fa fr ch x l) {y : Nat} (hx : x ≤ i) (hz : fa x < 1099511627776) (hy : y < i) (hfy : f y = l) (hl : l < k + x) (hlt : fa x + c x l - c y l < fa y) :
    Rs k c f i fa0 (updI fa y (fa x + c x l - c y l)) (updN fr y x) true x (l + 1) := by
  have hb := h.bf.relax hk.mt hk.ct hk.cb hx hz hy (by rw [hfy]; exact alB_iff.2 hl) (by rw [hfy]; exact hlt)
  rw [hfy] at hb
  have hs : sgTo (updI fa y (fa x + c x l - c y l)) i = sgTo fa i + (fa x + c x l - c y l - fa y) := by
    have := sg_upd fa y (fa x + c x l - c y l) i
    rw [if_pos hy] at this
    exact this
  have := h.le
  exact ⟨hb, by omega, fun _ => by omega, fun h => by cases h⟩
theorem Rs.done (h : Rs k c f i fa0 fa fr false (i + 1) 0) : Done1 (alB k) c f i 1099511627776 fa :=
  fun x y hx hy hz ha => h.fix rfl x y hx hy ha (Or.inl (by omega)) hz
/-- the changes lie in a range -/
theorem BF.range (hk : Rk k c f i m p q) (h : BF (alB k) c f i 1099511627776 fa fr) {x : Nat} (hx : x ≤ i) : -5940 ≤ fa x ∧ fa x ≤ 1099511627776 := by
  refine ⟨?_, h.le x hx⟩
  by_cases e : fa x < 1099511627776
  · obtain ⟨d, hd⟩ := h.rch x hx e
    have h1 := h.low hk.mt hk.ct hk.cb hd hx e
    unfold phi at h1
    have hib := hk.ib
    by_cases e2 : x = i
    · rw [if_pos e2] at h1; omega
    · rw [if_neg e2] at h1
      have := hk.pb x (by omega)
      omega
  · omega
theorem BF.sum (hk : Rk k c f i m p q) (h : BF (alB k) c f i 1099511627776 fa fr) : -5940 * (i : Int) ≤ sgTo fa i := by
  have := sg_le (f := fun _ => (-5940 : Int)) (g := fa) (n := i) fun x hx => (h.range hk (by omega)).1
  rw [sg_const] at this
  exact this
end
/-- the choice: the least change of all with a free column, scanned to the row x and its column l -/
structure Ch (k : Nat) (c : Nat → Nat → Int) (f : Nat → Nat) (i : Nat) (fa : Nat → Int) (le : Int) (at' l' : Nat) (x l : Nat) : Prop where
  fix : ∀ x' l2, x' ≤ i → l2 < k + x' → (x' < x ∨ (x' = x ∧ l2 < l)) → (∀ y, y < i → f y ≠ l2) → fa x' < 1099511627776 → le ≤ fa x' + c x' l2
  hit : le = 1099511627776 ∨ (at' ≤ i ∧ l' < k + at' ∧ (∀ y, y < i → f y ≠ l') ∧ fa at' < 1099511627776 ∧ le = fa at' + c at' l' ∧ le < 1099511627776)
  zero : at' ≤ i ∧ l' ≤ k + i
section
variable {k : Nat} {c : Nat → Nat → Int} {f : Nat → Nat} {i : Nat} {fa : Nat → Int} {le : Int} {at' l' x l : Nat}
theorem Ch.begin : Ch k c f i fa 1099511627776 0 0 0 0 := ⟨fun x' l2 _ _ h => by omega, Or.inl rfl, by omega⟩
theorem Ch.row (h : Ch k c f i fa le at' l' x l) (he : k + x ≤ l) : Ch k c f i fa le at' l' (x + 1) 0 :=
  ⟨fun x' l2 h1 h2 h3 h4 h5 => h.fix x' l2 h1 h2 (by
    by_cases e : x' = x
    · rw [e] at h2; omega
    · omega) h4 h5, h.hit, h.zero⟩
theorem Ch.held (h : Ch k c f i fa le at' l' x l) {y : Nat} (hy : y < i) (hf : f y = l) : Ch k c f i fa le at' l' x (l + 1) :=
  ⟨fun x' l2 h1 h2 h3 h4 h5 => h.fix x' l2 h1 h2 (by
    have : l2 ≠ l := fun e => h4 y hy (by rw [hf, e])
    omega) h4 h5, h.hit, h.zero⟩
theorem Ch.same (h : Ch k c f i fa le at' l' x l) (hs : le ≤ fa x + c x l) : Ch k c f i fa le at' l' x (l + 1) :=
  ⟨fun x' l2 h1 h2 h3 h4 h5 => by
    by_cases e : x' = x ∧ l2 = l
    · rw [e.1, e.2]; exact hs
    · exact h.fix x' l2 h1 h2 (by omega) h4 h5, h.hit, h.zero⟩
theorem Ch.take (h : Ch k c f i fa le at' l' x l) (hx : x ≤ i) (hl : l < k + x) (hfr : ∀ y, y < i → f y ≠ l) (hc0 : 0 ≤ c x l) (hz : fa x ≤ 1099511627776) (hlt : fa x + c x l < le) (hle : le ≤ 1099511627776) :
    Ch k c f i fa (fa x + c x l) x l x (l + 1) :=
  ⟨fun x' l2 h1 h2 h3 h4 h5 => by
    by_cases e : x' = x ∧ l2 = l
    · rw [e.1, e.2]; exact Int.le_refl _
    · have := h.fix x' l2 h1 h2 (by omega) h4 h5; omega, Or.inr ⟨hx, hl, hfr, by omega, rfl, by omega⟩, by omega⟩
theorem Ch.top (h : Ch k c f i fa le at' l' x l) : le ≤ 1099511627776 := by
  rcases h.hit with h | ⟨_, _, _, _, _, h⟩ <;> omega
end
/-- a free column of the new row -/
theorem free_new {k : Nat} {f : Nat → Nat} {i : Nat} (hk : 1 ≤ k) : ∃ l, l < k + i ∧ ∀ y, y < i → f y ≠ l := by
  refine Classical.byContradiction fun h => ?_
  have h1 : ∀ l, l < k + i → ∃ y, y < i ∧ f y = l := fun l hl => Classical.byContradiction fun e => h ⟨l, hl, fun y hy e2 => e ⟨y, hy, e2⟩⟩
  have := pig (f := fun l => (hol f i l).toNat) (n := k + i) (k := i) (fun l hl => by
    obtain ⟨y, hy, e⟩ := h1 l hl
    rcases hol_or (f := f) (l := l) (i := i) with ⟨z, g1, g2, g3⟩ | ⟨g1, g2⟩
    · show (hol f i l).toNat < i
      rw [g3]; omega
    · exact absurd e (g2 y hy)) (fun l l2 hl hl2 e => by
    obtain ⟨y, hy, e1⟩ := h1 l hl
    obtain ⟨y2, hy2, e2⟩ := h1 l2 hl2
    rcases hol_or (f := f) (l := l) (i := i) with ⟨z, g1, g2, g3⟩ | ⟨g1, g2⟩
    · rcases hol_or (f := f) (l := l2) (i := i) with ⟨z2, g4, g5, g6⟩ | ⟨g4, g5⟩
      · have e' : (hol f i l).toNat = (hol f i l2).toNat := e
        rw [g3, g6] at e'
        have : z = z2 := by omega
        rw [← g2, ← g5, this]
      · exact absurd e2 (g5 y2 hy2)
    · exact absurd e1 (g2 y hy))
  omega
theorem Ch.fin {k : Nat} {c : Nat → Nat → Int} {f : Nat → Nat} {i m : Nat} {p q fa : Nat → Int} {fr : Nat → Nat} {le : Int} {at' l' : Nat} (hk : Rk k c f i m p q) (h1k : 1 ≤ k) (hb : BF (alB k) c f i 1099511627776 fa fr) (h : Ch k c f i fa le at' l' (i + 1) 0) :
    (at' ≤ i ∧ l' < k + at' ∧ (∀ y, y < i → f y ≠ l') ∧ fa at' < 1099511627776 ∧ le = fa at' + c at' l') ∧ le ≤ 99 ∧ Best1 (alB k) c f i m 1099511627776 fa le := by
  obtain ⟨l, hl, hfr⟩ := free_new (f := f) (i := i) h1k
  have h1 := h.fix i l (Nat.le_refl _) hl (Or.inl (by omega)) hfr (by rw [hb.top]; omega)
  have h2 := hk.cb i l (Nat.le_refl _) (alB_iff.2 hl)
  rw [hb.top] at h1
  refine ⟨?_, by omega, fun x l hx _ hz ha hfr => h.fix x l hx (alB_iff.1 ha) (Or.inl (by omega)) hfr hz⟩
  rcases h.hit with e | ⟨g1, g2, g3, g4, g5, _⟩
  · omega
  · exact ⟨g1, g2, g3, g4, g5⟩
end Go.Proofs.YtllfchcocgdcjaaGreat
