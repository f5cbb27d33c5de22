/- Best matchings: one row more by the least change of cost. -/
import Derived.Test.YtllfchcocgdcjaaGreatAsP
namespace Go.Proofs.YtllfchcocgdcjaaGreat
open Go.RowKit

def updI (f : Nat → Int) (a : Nat) (x : Int) : Nat → Int := fun i => if i = a then x else f i
def updN (f : Nat → Nat) (a : Nat) (x : Nat) : Nat → Nat := fun i => if i = a then x else f i
/-- a row more: prices that are fit to it pay for each matching that costs no more -/
theorem aug_dual {a : Nat → Nat → Bool} {c : Nat → Nat → Int} {i m : Nat} {f g : Nat → Nat} {p : Nat → Int} (hf : Mtc (fun i l => a i l = true) i m f)
    (h1 : ∀ y, y < i → c y (f y) ≤ p y) (h2 : ∀ y x, y < i → x < i + 1 → a x (f y) = true → p x - c x (f y) ≤ p y - c y (f y))
    (h3 : ∀ l x, l < m → x < i + 1 → (∀ y, y < i → f y ≠ l) → a x l = true → p x ≤ c x l)
    (hg : Mtc (fun i l => a i l = true) (i + 1) m g) (hc : mcost c g (i + 1) ≤ mcost c f i + p i) : Cert (fun i l => a i l = true) c (i + 1) m g p (fun l => rentOf a c p l (i + 1)) := by
  refine slack hg (rent_dual a) ?_
  have e1 := (sg_inj (f := f) (m := m) (n := i) (q := fun l => rentOf a c p l (i + 1)) (fun y hy => (hf.1 y hy).1) hf.2 (fun l _ => rent_ge.1)).2 (fun l hl hne => by
    have := rent_le (a := a) (c := c) (p := p) (l := l) (Int.le_refl 0) (n := i + 1) fun x hx ha => by have := h3 l x hl hx hne ha; omega
    have := (rent_ge (a := a) (c := c) (p := p) (l := l) (n := i + 1)).1
    show rentOf a c p l (i + 1) = 0
    omega)
  have e2 : sgTo (fun y => (fun l => rentOf a c p l (i + 1)) (f y)) i = sgTo (fun y => p y - c y (f y)) i := sgTo_congr fun y hy => by
    have g1 := (rent_ge (a := a) (c := c) (p := p) (l := f y) (n := i + 1)).2 y (by omega) (hf.1 y hy).2
    have g2 : rentOf a c p (f y) (i + 1) ≤ p y - c y (f y) := rent_le (by have := h1 y hy; omega) fun x hx ha => h2 y x hy hx ha
    show rentOf a c p (f y) (i + 1) = p y - c y (f y)
    omega
  rw [sg_sub] at e2
  unfold dval
  rw [sgTo, ← e1, e2]
  unfold mcost at *
  omega
/-- a row comes to the row i along the rows that are named, in so many steps -/
inductive Rch (fr : Nat → Nat) (i : Nat) : Nat → Nat → Prop
  | base : Rch fr i 0 i
  | step {d y : Nat} : y ≠ i → Rch fr i d (fr y) → Rch fr i (d + 1) y
theorem Rch.uni {fr : Nat → Nat} {i d e y : Nat} (h1 : Rch fr i d y) (h2 : Rch fr i e y) : d = e := by
  induction h1 generalizing e with
  | base =>
    cases h2 with
    | base => rfl
    | step h _ => exact absurd rfl h
  | step h _ ih =>
    cases h2 with
    | base => exact absurd rfl h
    | step _ h3 => rw [ih h3]
/-- what holds while the least changes are looked for -/
structure BF (a : Nat → Nat → Bool) (c : Nat → Nat → Int) (f : Nat → Nat) (i : Nat) (z : Int) (fa : Nat → Int) (fr : Nat → Nat) : Prop where
  top : fa i = 0
  le : ∀ x, x ≤ i → fa x ≤ z
  rch : ∀ x, x ≤ i → fa x < z → ∃ d, Rch fr i d x
  edge : ∀ x, x < i → fa x < z → fr x ≤ i ∧ fa (fr x) < z ∧ a (fr x) (f x) = true ∧ fa (fr x) + c (fr x) (f x) - c x (f x) ≤ fa x
  up : ∀ x, x ≤ i → fa x < z → fa x ≤ 99 * sgTo (fun y => if fa y < z then 1 else 0) i
section
variable {a : Nat → Nat → Bool} {c : Nat → Nat → Int} {f : Nat → Nat} {i m : Nat} {z : Int} {fa : Nat → Int} {fr : Nat → Nat} {p q : Nat → Int}
/-- the potential of a row -/
def phi (fa p : Nat → Int) (i x : Nat) : Int := fa x + if x = i then 0 else p x
/-- how prices bound the way from a row to another one -/
theorem pot_le (hf : Mtc (fun i l => a i l = true) i m f) (hc : Cert (fun i l => a i l = true) c i m f p q) (hc0 : ∀ x l, x ≤ i → a x l = true → 0 ≤ c x l ∧ c x l ≤ 99) {x y : Nat} (hx : x ≤ i) (hy : y < i) (ha : a x (f y) = true) :
    (if x = i then 0 else p x) - p y ≤ c x (f y) - c y (f y) := by
  have h1 := hc.2.1 y hy
  by_cases e : x = i
  · rw [if_pos e]
    subst e
    have := hc0 x _ (Nat.le_refl _) ha
    have := hc.1.1 (f y) (hf.1 y hy).1
    omega
  · rw [if_neg e]
    have := hc.1.2 x (f y) (by omega) (hf.1 y hy).1 ha
    omega
theorem BF.down (h : BF a c f i z fa fr) (hf : Mtc (fun i l => a i l = true) i m f) (hc : Cert (fun i l => a i l = true) c i m f p q) (hc0 : ∀ x l, x ≤ i → a x l = true → 0 ≤ c x l ∧ c x l ≤ 99) {x : Nat} (hx : x < i) (hz : fa x < z) :
    phi fa p i (fr x) ≤ phi fa p i x := by
  obtain ⟨h1, h2, h3, h4⟩ := h.edge x hx hz
  have := pot_le hf hc hc0 h1 hx h3
  unfold phi
  rw [if_neg (show ¬ x = i by omega)]
  omega
theorem BF.low (h : BF a c f i z fa fr) (hf : Mtc (fun i l => a i l = true) i m f) (hc : Cert (fun i l => a i l = true) c i m f p q) (hc0 : ∀ x l, x ≤ i → a x l = true → 0 ≤ c x l ∧ c x l ≤ 99) {x d : Nat} (hd : Rch fr i d x) (hx : x ≤ i) (hz : fa x < z) :
    0 ≤ phi fa p i x := by
  induction hd with
  | base => unfold phi; rw [if_pos rfl, h.top]; decide
  | step hne _ ih =>
    have h0 := h.edge _ (by omega) hz
    have h1 := ih h0.1 h0.2.1
    have h2 := h.down hf hc hc0 (by omega) hz
    omega
theorem BF.keep (h : BF a c f i z fa fr) (hf : Mtc (fun i l => a i l = true) i m f) (hc : Cert (fun i l => a i l = true) c i m f p q) (hc0 : ∀ x l, x ≤ i → a x l = true → 0 ≤ c x l ∧ c x l ≤ 99) {x y : Nat} {t d : Nat}
    (hd : Rch fr i d t) (ht : t ≤ i) (hz : fa t < z) (hlt : phi fa p i t < phi fa p i y) : Rch (updN fr y x) i d t := by
  induction hd with
  | base => exact .base
  | step hne _ ih =>
    rename_i d' t' _
    have h0 := h.edge _ (by omega) hz
    have h2 := h.down hf hc hc0 (by omega) hz
    have h1 := ih h0.1 h0.2.1 (by omega)
    have hty : t' ≠ y := fun e => by rw [e] at hlt; omega
    refine .step hne ?_
    show Rch (updN fr y x) i d' (if t' = y then x else fr t')
    rw [if_neg hty]
    exact h1
/-- a step that lessens a change -/
theorem BF.relax (h : BF a c f i z fa fr) (hf : Mtc (fun i l => a i l = true) i m f) (hc : Cert (fun i l => a i l = true) c i m f p q) (hc0 : ∀ x l, x ≤ i → a x l = true → 0 ≤ c x l ∧ c x l ≤ 99) {x y : Nat} (hx : x ≤ i) (hz : fa x < z) (hy : y < i) (ha : a x (f y) = true)
    (hlt : fa x + c x (f y) - c y (f y) < fa y) : BF a c f i z (updI fa y (fa x + c x (f y) - c y (f y))) (updN fr y x) := by
  have hp := pot_le hf hc hc0 hx hy ha
  have hphi : phi fa p i x < phi fa p i y := by
    unfold phi
    rw [if_neg (show ¬ y = i by omega)]
    omega
  have hxy : x ≠ y := fun e => by rw [e] at hphi; omega
  have hyz := h.le y (by omega)
  obtain ⟨dx, hdx⟩ := h.rch x hx hz
  have hyr : Rch (updN fr y x) i (dx + 1) y := by
    refine .step (by omega) ?_
    show Rch (updN fr y x) i dx (if y = y then x else fr y)
    rw [if_pos rfl]
    exact h.keep hf hc hc0 hdx hx hz hphi
  refine ⟨?_, ?_, ?_, ?_, ?_⟩
  · show (if i = y then _ else fa i) = 0
    rw [if_neg (by omega)]; exact h.top
  · intro t ht
    show (if t = y then _ else fa t) ≤ z
    by_cases e : t = y
    · rw [if_pos e]; omega
    · rw [if_neg e]; exact h.le t ht
  · intro t ht htz
    by_cases e : t = y
    · exact ⟨dx + 1, by rw [e]; exact hyr⟩
    · have htz' : (if t = y then fa x + c x (f y) - c y (f y) else fa t) < z := htz
      rw [if_neg e] at htz'
      obtain ⟨d, hd⟩ := h.rch t ht htz'
      have key : ∀ {d t : Nat}, Rch fr i d t → t ≤ i → fa t < z → ∃ d', Rch (updN fr y x) i d' t := by
        intro d t hd
        induction hd with
        | base => exact fun _ _ => ⟨0, .base⟩
        | step hne _ ih =>
          rename_i d' t' _
          intro ht hz
          by_cases e : t' = y
          · exact ⟨dx + 1, by rw [e]; exact hyr⟩
          · have h0 := h.edge _ (by omega) hz
            obtain ⟨d2, h2⟩ := ih h0.1 h0.2.1
            refine ⟨d2 + 1, .step hne ?_⟩
            show Rch (updN fr y x) i d2 (if t' = y then x else fr t')
            rw [if_neg e]; exact h2
      exact key hd ht htz'
  · intro t ht htz
    have htz' : (if t = y then fa x + c x (f y) - c y (f y) else fa t) < z := htz
    show (if t = y then x else fr t) ≤ i ∧ (if (if t = y then x else fr t) = y then _ else fa (if t = y then x else fr t)) < z ∧ a (if t = y then x else fr t) (f t) = true ∧
      (if (if t = y then x else fr t) = y then fa x + c x (f y) - c y (f y) else fa (if t = y then x else fr t)) + c (if t = y then x else fr t) (f t) - c t (f t) ≤ (if t = y then fa x + c x (f y) - c y (f y) else fa t)
    by_cases e : t = y
    · subst e
      rw [if_pos rfl, if_neg hxy, if_pos rfl]
      exact ⟨hx, hz, ha, Int.le_refl _⟩
    · rw [if_neg e, if_neg e]
      rw [if_neg e] at htz'
      obtain ⟨h1, h2, h3, h4⟩ := h.edge t ht htz'
      by_cases e2 : fr t = y
      · rw [if_pos e2]
        rw [e2] at h3 h4 h1 ⊢
        exact ⟨h1, by omega, h3, by omega⟩
      · rw [if_neg e2]
        exact ⟨h1, h2, h3, h4⟩
  · have hcx := hc0 x (f y) hx ha
    have hcy := hc0 y (f y) (by omega) (hf.1 y hy).2
    have hux := h.up x hx hz
    have hvz : fa x + c x (f y) - c y (f y) < z := by omega
    have g1 := sg_upd (fun t => if fa t < z then 1 else 0) y 1 i
    rw [if_pos hy] at g1
    have g2 : sgTo (fun t => if updI fa y (fa x + c x (f y) - c y (f y)) t < z then (1 : Int) else 0) i = sgTo (fun t => if t = y then 1 else (if fa t < z then 1 else 0)) i := sgTo_congr fun t _ => by
      show (if (if t = y then _ else fa t) < z then (1 : Int) else 0) = _
      by_cases e : t = y
      · rw [if_pos e, if_pos e, if_pos hvz]
      · rw [if_neg e, if_neg e]
    rw [g2, g1]
    have g3 : fa x + c x (f y) - c y (f y) ≤ 99 * (sgTo (fun t => if fa t < z then 1 else 0) i + (1 - if fa y < z then 1 else 0)) := by
      by_cases e : fa y < z
      · rw [if_pos e]
        have := h.up y (by omega) e
        omega
      · rw [if_neg e]; omega
    intro t ht htz
    have htz' : (if t = y then fa x + c x (f y) - c y (f y) else fa t) < z := htz
    show (if t = y then _ else fa t) ≤ _
    by_cases e : t = y
    · rw [if_pos e]; exact g3
    · rw [if_neg e]
      rw [if_neg e] at htz'
      have := h.up t ht htz'
      by_cases e : fa y < z
      · rw [if_pos e]; omega
      · rw [if_neg e]; omega
/-- nothing can be lessened any more -/
def Done1 (a : Nat → Nat → Bool) (c : Nat → Nat → Int) (f : Nat → Nat) (i : Nat) (z : Int) (fa : Nat → Int) : Prop :=
  ∀ x y, x ≤ i → y < i → fa x < z → a x (f y) = true → fa y ≤ fa x + c x (f y) - c y (f y)
/-- the least change of all with a free column -/
def Best1 (a : Nat → Nat → Bool) (c : Nat → Nat → Int) (f : Nat → Nat) (i m : Nat) (z : Int) (fa : Nat → Int) (D : Int) : Prop :=
  ∀ x l, x ≤ i → l < m → fa x < z → a x l = true → (∀ y, y < i → f y ≠ l) → D ≤ fa x + c x l
/-- the columns while they are handed on -/
structure AG (a : Nat → Nat → Bool) (c : Nat → Nat → Int) (f : Nat → Nat) (i m : Nat) (z : Int) (fa : Nat → Int) (fr : Nat → Nat) (D : Int) (out : Nat → Nat) (at' l : Nat) : Prop where
  le : at' ≤ i
  fin : fa at' < z
  col : l < m ∧ a at' l = true
  old : ∀ x d e, x < i → Rch fr i d x → Rch fr i e at' → d ≤ e → out x = f x
  inj : ∀ x y, x < i → y < i → out x = out y → x = y
  new : ∀ x, x < i → out x ≠ l
  may : ∀ x, x < i → out x < m ∧ a x (out x) = true
  sum : sgTo (fun x => c x (out x)) i + c at' l + fa at' = mcost c f i + D
theorem AG.start (hf : Mtc (fun i l => a i l = true) i m f) {x l : Nat} (hx : x ≤ i) (hz : fa x < z) (hl : l < m) (ha : a x l = true) (hfree : ∀ y, y < i → f y ≠ l) {out : Nat → Nat} (ho : ∀ x, x < i → out x = f x) :
    AG a c f i m z fa fr (fa x + c x l) out x l := by
  refine ⟨hx, hz, ⟨hl, ha⟩, fun y d e hy _ _ _ => ho y hy, fun x y h1 h2 h => hf.2 x y h1 h2 (by rw [← ho x h1, ← ho y h2, h]), fun y hy => by rw [ho y hy]; exact hfree y hy, fun y hy => by rw [ho y hy]; exact hf.1 y hy, ?_⟩
  have e2 : sgTo (fun y => c y (out y)) i = mcost c f i := sgTo_congr fun y hy => by rw [ho y hy]
  rw [e2]; omega
theorem AG.step (hb : BF a c f i z fa fr) (hd : Done1 a c f i z fa) {D : Int} {out : Nat → Nat} {x l : Nat} (h : AG a c f i m z fa fr D out x l) (hne : x ≠ i) :
    AG a c f i m z fa fr D (updN out x l) (fr x) (f x) ∧ out x = f x := by
  have hxi : x < i := by have := h.le; omega
  obtain ⟨e1, e2, e3, e4⟩ := hb.edge x hxi h.fin
  obtain ⟨d, hrd⟩ := hb.rch x h.le h.fin
  have hox : out x = f x := h.old x d d hxi hrd hrd (Nat.le_refl _)
  have h4 := hd (fr x) x e1 hxi e2 e3
  have hrs : ∃ d', d = d' + 1 ∧ Rch fr i d' (fr x) := by
    cases hrd with
    | base => exact absurd rfl hne
    | step _ h => exact ⟨_, rfl, h⟩
  obtain ⟨d', rfl, hr'⟩ := hrs
  have hm := h.may x hxi
  rw [hox] at hm
  have hv : ∀ y, updN out x l y = if y = x then l else out y := fun _ => rfl
  refine ⟨⟨e1, e2, ⟨hm.1, e3⟩, ?_, ?_, ?_, ?_, ?_⟩, hox⟩
  · intro y d2 e hy hy2 he hle
    have : e = d' := he.uni hr'
    rw [hv, if_neg]
    · exact h.old y d2 (d' + 1) hy hy2 hrd (by omega)
    · intro e0
      rw [e0] at hy2
      have := hy2.uni hrd
      omega
  · intro y w hy hw e
    rw [hv, hv] at e
    by_cases e1 : y = x
    · rw [if_pos e1] at e
      by_cases e2 : w = x
      · rw [e1, e2]
      · rw [if_neg e2] at e
        exact absurd e.symm (h.new w hw)
    · rw [if_neg e1] at e
      by_cases e2 : w = x
      · rw [if_pos e2] at e
        exact absurd e (h.new y hy)
      · rw [if_neg e2] at e
        exact h.inj y w hy hw e
  · intro y hy
    rw [hv]
    by_cases e1 : y = x
    · rw [if_pos e1, ← hox]
      exact fun e => h.new x hxi e.symm
    · rw [if_neg e1, ← hox]
      exact fun e => e1 (h.inj y x hy hxi e)
  · intro y hy
    rw [hv]
    by_cases e1 : y = x
    · rw [if_pos e1, e1]; exact h.col
    · rw [if_neg e1]; exact h.may y hy
  · have g1 := sg_upd (fun y => c y (out y)) x (c x l) i
    rw [if_pos hxi] at g1
    have g2 : sgTo (fun y => c y (updN out x l y)) i = sgTo (fun y => if y = x then c x l else c y (out y)) i := sgTo_congr fun y _ => by
      rw [hv]
      by_cases e1 : y = x
      · rw [if_pos e1, if_pos e1, e1]
      · rw [if_neg e1, if_neg e1]
    have g3 := h.sum
    rw [g2, g1, hox]
    omega
theorem AG.end {D : Int} {out : Nat → Nat} {l : Nat} (h : AG a c f i m z fa fr D out i l) (hi : fa i = 0) :
    Mtc (fun i l => a i l = true) (i + 1) m (updN out i l) ∧ mcost c (updN out i l) (i + 1) = mcost c f i + D := by
  have hv : ∀ y, updN out i l y = if y = i then l else out y := fun _ => rfl
  refine ⟨⟨fun y hy => ?_, fun x y hx hy e => ?_⟩, ?_⟩
  · rw [hv]
    by_cases e : y = i
    · rw [if_pos e, e]; exact h.col
    · rw [if_neg e]; exact h.may y (by omega)
  · rw [hv, hv] at e
    by_cases e1 : x = i
    · rw [if_pos e1] at e
      by_cases e2 : y = i
      · rw [e1, e2]
      · rw [if_neg e2] at e
        exact absurd e.symm (h.new y (by omega))
    · rw [if_neg e1] at e
      by_cases e2 : y = i
      · rw [if_pos e2] at e
        exact absurd e (h.new x (by omega))
      · rw [if_neg e2] at e
        exact h.inj x y (by omega) (by omega) e
  · have g := h.sum
    rw [hi] at g
    have g2 : sgTo (fun y => c y (updN out i l y)) i = sgTo (fun y => c y (out y)) i := sgTo_congr fun y hy => by rw [hv, if_neg (by omega)]
    unfold mcost
    rw [sgTo, g2, hv, if_pos rfl]
    unfold mcost at g
    omega
/-- a best matching of the rows so far, and the least change: what is made of them is a best matching of one row more -/
theorem aug_best (hf : Mtc (fun i l => a i l = true) i m f) (hc : Cert (fun i l => a i l = true) c i m f p q) (hc0 : ∀ x l, x ≤ i → a x l = true → 0 ≤ c x l ∧ c x l ≤ 99) (hb : BF a c f i z fa fr) (hd : Done1 a c f i z fa) {D b e : Int} (hD : Best1 a c f i m z fa D) (hz : 99 * ((i : Int) + 1) < z)
    (hpb : ∀ x, x < i → p x ≤ b) (hDe : D ≤ e) (he : 0 ≤ e) (hb0 : 0 ≤ b) {g : Nat → Nat} (hg : Mtc (fun i l => a i l = true) (i + 1) m g) (hgc : mcost c g (i + 1) = mcost c f i + D) :
    ∃ p' q', Cert (fun i l => a i l = true) c (i + 1) m g p' q' ∧ ∀ x, x < i + 1 → p' x ≤ b + e := by
  have hti : fa i < z := by rw [hb.top]; omega
  have hcnt : sgTo (fun y => if fa y < z then (1 : Int) else 0) i ≤ i := by
    have h := sg_le (f := fun y => if fa y < z then (1 : Int) else 0) (g := fun _ => 1) (n := i) fun y _ => by
      show (if fa y < z then (1 : Int) else 0) ≤ 1
      split <;> omega
    have h2 : ∀ n : Nat, sgTo (fun _ => (1 : Int)) n = n := fun n => by
      induction n with
      | zero => rfl
      | succ n ih => rw [sgTo, ih]; omega
    rw [h2] at h
    exact h
  have hcl : ∀ x y, x ≤ i → y < i → fa x < z → a x (f y) = true → fa y < z := fun x y hx hy hxz ha => by
    have h1 := hd x y hx hy hxz ha
    have h2 := hb.up x hx hxz
    have h3 := hc0 x (f y) hx ha
    have h4 := hc0 y (f y) (by omega) (hf.1 y hy).2
    omega
  refine ⟨fun x => if x = i then D else if fa x < z then max (p x) (D - fa x) else p x, _, aug_dual hf ?_ ?_ ?_ hg ?_, ?_⟩
  · intro y hy
    have := cert_ge hc hf hy
    show c y (f y) ≤ if y = i then D else if fa y < z then max (p y) (D - fa y) else p y
    rw [if_neg (by omega)]
    split <;> omega
  · intro y x hy hx ha
    show (if x = i then D else if fa x < z then max (p x) (D - fa x) else p x) - c x (f y) ≤ (if y = i then D else if fa y < z then max (p y) (D - fa y) else p y) - c y (f y)
    have hyi : ¬ y = i := by omega
    rw [if_neg hyi]
    have g1 := hc.2.1 y hy
    by_cases e1 : x = i
    · subst e1
      rw [if_pos rfl]
      have h1 := hd x y (Nat.le_refl _) hy hti ha
      rw [hb.top] at h1
      rw [if_pos (hcl x y (Nat.le_refl _) hy hti ha)]
      omega
    · rw [if_neg e1]
      have g2 := hc.1.2 x (f y) (by omega) (hf.1 y hy).1 ha
      by_cases e2 : fa x < z
      · rw [if_pos e2]
        have h1 := hd x y (by omega) hy e2 ha
        rw [if_pos (hcl x y (by omega) hy e2 ha)]
        omega
      · rw [if_neg e2]
        split <;> omega
  · intro l x hl hx hfree ha
    show (if x = i then D else if fa x < z then max (p x) (D - fa x) else p x) ≤ c x l
    by_cases e1 : x = i
    · subst e1
      rw [if_pos rfl]
      have h1 := hD x l (Nat.le_refl _) hl hti ha hfree
      rw [hb.top] at h1
      omega
    · rw [if_neg e1]
      have g2 := hc.1.2 x l (by omega) hl ha
      rw [hc.2.2 l hl hfree] at g2
      by_cases e2 : fa x < z
      · rw [if_pos e2]
        have h1 := hD x l (by omega) hl e2 ha hfree
        omega
      · rw [if_neg e2]; omega
  · show mcost c g (i + 1) ≤ mcost c f i + (if i = i then D else _)
    rw [if_pos rfl, hgc]
    exact Int.le_refl _
  · intro x hx
    show (if x = i then D else if fa x < z then max (p x) (D - fa x) else p x) ≤ b + e
    by_cases e1 : x = i
    · rw [if_pos e1]; omega
    · rw [if_neg e1]
      have g1 := hpb x (by omega)
      by_cases e2 : fa x < z
      · rw [if_pos e2]
        obtain ⟨d, hr⟩ := hb.rch x (by omega) e2
        have h1 := hb.low hf hc hc0 hr (by omega) e2
        unfold phi at h1
        rw [if_neg e1] at h1
        omega
      · rw [if_neg e2]; omega
end
end Go.Proofs.YtllfchcocgdcjaaGreat
