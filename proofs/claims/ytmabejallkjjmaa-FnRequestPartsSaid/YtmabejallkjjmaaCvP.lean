/- Runs through requests: which is least, and what it costs with more places, in plain words. -/
import Derived.Test.YtmabejallkjjmaaGrA
namespace Go.Proofs.Ytmabejallkjjmaa
open Go.RowKit

def swp (S : Int → Prop) (o r : Int) : Int → Prop := fun y => y = r ∨ (y ≠ o ∧ S y)
def ins (S : Int → Prop) (a : Int) : Int → Prop := fun y => y = a ∨ S y
/-- a run through requests from a set on, and its faults; the places of a cache that are empty have pages that are never requested -/
inductive Run : List Int → (Int → Prop) → Nat → Prop
  | nil (S : Int → Prop) : Run [] S 0
  | hit {r : Int} {X : List Int} {S : Int → Prop} {c : Nat} : S r → Run X S c → Run (r :: X) S c
  | miss {r o : Int} {X : List Int} {S : Int → Prop} {c : Nat} : ¬ S r → S o → Run X (swp S o r) c → Run (r :: X) S (c + 1)
theorem Run.same {X : List Int} {S T : Int → Prop} {c : Nat} (h : Run X S c) (e : ∀ y, S y ↔ T y) : Run X T c := by
  have : S = T := funext fun y => propext (e y)
  rw [← this]; exact h
theorem Run.le {X : List Int} {S : Int → Prop} {c : Nat} (h : Run X S c) : c ≤ X.length := by
  induction h with
  | nil => simp
  | hit _ _ ih => simp; omega
  | miss _ _ _ ih => simp; omega

/-- one page for another one costs at most one fault -/
theorem run_swap {o b : Int} : ∀ {X : List Int} {S : Int → Prop} {c : Nat}, ¬ S o → ¬ S b → Run X (ins S b) c → ∃ c', c' ≤ c + 1 ∧ Run X (ins S o) c'
  | [], S, c, _, _, _ => ⟨0, by omega, .nil _⟩
  | r :: X, S, c, ho, hb, h => by
    by_cases hob : o = b
    · subst hob; exact ⟨c, by omega, h⟩
    cases h with
    | hit hr h =>
      by_cases hS : S r
      · obtain ⟨c', h1, h2⟩ := run_swap ho hb h
        exact ⟨c', h1, .hit (.inr hS) h2⟩
      · have hrb : r = b := by rcases hr with e | e; exact e; exact absurd e hS
        subst hrb
        refine ⟨c + 1, by omega, .miss (o := o) (fun e => ?_) (.inl rfl) (h.same fun y => ?_)⟩
        · rcases e with e | e
          · exact hob e.symm
          · exact hb e
        · simp only [ins, swp]; grind
    | @miss _ x _ _ c0 hn hx h =>
      by_cases hro : r = o
      · subst hro
        rcases hx with e | hx
        · subst e
          exact ⟨c0, by omega, .hit (.inl rfl) (h.same fun y => by simp only [ins, swp]; grind)⟩
        · obtain ⟨c', h1, h2⟩ := run_swap (o := x) (b := b) (S := fun y => y = r ∨ (S y ∧ y ≠ x)) (by grind) (by grind) (h.same fun y => by simp only [ins, swp]; grind)
          exact ⟨c', by omega, .hit (.inl rfl) (h2.same fun y => by simp only [ins]; grind)⟩
      · have hnr : ¬ S r := fun e => hn (.inr e)
        have hrb : r ≠ b := fun e => hn (.inl e)
        rcases hx with e | hx
        · subst e
          exact ⟨c0 + 1, by omega, .miss (o := o) (by simp only [ins]; grind) (.inl rfl) (h.same fun y => by simp only [ins, swp]; grind)⟩
        · obtain ⟨c', h1, h2⟩ := run_swap (o := o) (b := b) (S := swp S x r) (by simp only [swp]; grind) (by simp only [swp]; grind) (h.same fun y => by simp only [ins, swp]; grind)
          exact ⟨c' + 1, by omega, .miss (o := x) (by simp only [ins]; grind) (.inr hx) (h2.same fun y => by simp only [ins, swp]; grind)⟩

/-- a is requested no later than b -/
def bef : List Int → Int → Int → Prop
  | [], _, _ => True
  | r :: X, a, b => r = a ∨ (r ≠ b ∧ bef X a b)
/-- the page that is requested earlier is not worse -/
theorem run_exch {a b : Int} : ∀ {X : List Int} {S : Int → Prop} {c : Nat}, ¬ S a → ¬ S b → bef X a b → Run X (ins S b) c → ∃ c', c' ≤ c ∧ Run X (ins S a) c'
  | [], S, c, _, _, _, _ => ⟨0, by omega, .nil _⟩
  | r :: X, S, c, ha, hb, hbef, h => by
    by_cases hab : a = b
    · subst hab; exact ⟨c, by omega, h⟩
    cases h with
    | hit hr h =>
      by_cases hS : S r
      · have hb2 : bef X a b := by
          rcases hbef with e | e
          · exact absurd (e ▸ hS) ha
          · exact e.2
        obtain ⟨c', h1, h2⟩ := run_exch ha hb hb2 h
        exact ⟨c', h1, .hit (.inr hS) h2⟩
      · have hrb : r = b := by rcases hr with e | e; exact e; exact absurd e hS
        rcases hbef with e | e
        · exact absurd (e.symm.trans hrb) hab
        · exact absurd hrb e.1
    | @miss _ x _ _ c0 hn hx h =>
      by_cases hra : r = a
      · subst hra
        rcases hx with e | hx
        · subst e
          exact ⟨c0, by omega, .hit (.inl rfl) (h.same fun y => by simp only [ins, swp]; grind)⟩
        · obtain ⟨c', h1, h2⟩ := run_swap (o := x) (b := b) (S := fun y => y = r ∨ (S y ∧ y ≠ x)) (by grind) (by grind) (h.same fun y => by simp only [ins, swp]; grind)
          exact ⟨c', by omega, .hit (.inl rfl) (h2.same fun y => by simp only [ins]; grind)⟩
      · have hnr : ¬ S r := fun e => hn (.inr e)
        have hrb : r ≠ b := fun e => hn (.inl e)
        have hb2 : bef X a b := by
          rcases hbef with e | e
          · exact absurd e hra
          · exact e.2
        rcases hx with e | hx
        · subst e
          exact ⟨c0 + 1, by omega, .miss (o := a) (by simp only [ins]; grind) (.inl rfl) (h.same fun y => by simp only [ins, swp]; grind)⟩
        · obtain ⟨c', h1, h2⟩ := run_exch (S := swp S x r) (by simp only [swp]; grind) (by simp only [swp]; grind) hb2 (h.same fun y => by simp only [ins, swp]; grind)
          exact ⟨c' + 1, by omega, .miss (o := x) (by simp only [ins]; grind) (.inr hx) (h2.same fun y => by simp only [ins, swp]; grind)⟩
/-- more pages are not worse -/
theorem run_mono : ∀ {X : List Int} {A B : Int → Prop} {c : Nat}, (∀ y, A y → B y) → Run X A c → ∃ c', c' ≤ c ∧ Run X B c'
  | [], _, _, _, _, _ => ⟨0, by omega, .nil _⟩
  | r :: X, A, B, c, hAB, h => by
    cases h with
    | hit hr h =>
      obtain ⟨c', h1, h2⟩ := run_mono hAB h
      exact ⟨c', h1, .hit (hAB _ hr) h2⟩
    | @miss _ x _ _ c0 hn hx h =>
      by_cases hB : B r
      · obtain ⟨c', h1, h2⟩ := run_mono (B := B) (fun y hy => by simp only [swp] at hy; grind) h
        exact ⟨c', by omega, .hit hB h2⟩
      · obtain ⟨c', h1, h2⟩ := run_mono (B := swp B x r) (fun y hy => by simp only [swp] at hy ⊢; grind) h
        exact ⟨c' + 1, by omega, .miss hB (hAB _ hx) h2⟩

/-- pages of one set only, some of them in pairs -/
structure Prs (m : Int → Int) (A B : Int → Prop) : Prop where
  inv : ∀ x, m (m x) = x
  dif : ∀ x, m x ≠ x → (A x ↔ ¬ B x)
structure Spl (m : Int → Int) (A B C D : Int → Prop) : Prop where
  both : ∀ x, (C x ∧ D x) ↔ (A x ∧ B x)
  some : ∀ x, (C x ∨ D x) ↔ (A x ∨ B x)
  pair : ∀ x, m x ≠ x → (C x ↔ ¬ C (m x))
def Cvx (X : List Int) (A B : Int → Prop) (n : Nat) : Prop := ∃ m, Prs m A B ∧ ∀ C D, Spl m A B C D → ∃ c d, c + d ≤ n ∧ Run X C c ∧ Run X D d
theorem Cvx.symm {X : List Int} {A B : Int → Prop} {n : Nat} (h : Cvx X A B n) : Cvx X B A n := by
  obtain ⟨m, h1, h2⟩ := h
  refine ⟨m, ⟨h1.inv, fun x hx => by have := h1.dif x hx; grind⟩, fun C D hs => h2 C D ⟨fun x => ?_, fun x => ?_, hs.pair⟩⟩
  · rw [hs.both x]; exact And.comm
  · rw [hs.some x]; exact Or.comm
/-- one set has the request, the other one not -/
theorem cvx_one {r b : Int} {X : List Int} {A B : Int → Prop} {n : Nat} (hA : A r) (hB : ¬ B r) (hb : B b) (h : Cvx X A (swp B b r) n) : Cvx (r :: X) A B (n + 1) := by
  obtain ⟨m, h1, h2⟩ := h
  have hrb : b ≠ r := fun e => hB (e ▸ hb)
  have mr : m r = r := by
    by_cases e : m r = r
    · exact e
    · exact absurd (.inl rfl) ((h1.dif r e).1 hA)
  by_cases hAb : A b
  · refine ⟨fun x => if x = b then b else if x = r then (if m b = b then r else m b) else if x = m b then r else m x, ⟨fun x => ?_, fun x hx => ?_⟩, fun C D hs => ?_⟩
    · have i1 := h1.inv x
      have i2 := h1.inv b
      grind
    · have i1 := h1.dif x
      have i2 := h1.dif (m b)
      have i3 := h1.inv b
      simp only [swp] at i1 i2
      grind
    · have bp := hs.both
      have sm := hs.some
      have pr := hs.pair
      have i3 := h1.inv b
      have i4 := h1.dif b
      have i5 := h1.dif (m b)
      simp only [swp] at i4 i5
      by_cases hC : C r
      · obtain ⟨c, d, h3, h4, h5⟩ := h2 C (swp D b r) ⟨fun x => by
          have := bp x; have := sm x; have := bp r; have := bp b; simp only [swp]; grind, fun x => by
          have := bp x; have := sm x; have := bp r; have := bp b; simp only [swp]; grind, fun x hx => by
          have i1 := h1.inv x
          have q1 := pr x; have q2 := pr r; have := bp r; have := bp b
          grind⟩
        have := bp r; have := bp b; have := sm r
        exact ⟨c, d + 1, by omega, .hit hC h4, .miss (o := b) (by grind) (by grind) h5⟩
      · obtain ⟨c, d, h3, h4, h5⟩ := h2 (swp C b r) D ⟨fun x => by
          have := bp x; have := sm x; have := bp r; have := bp b; have := sm r; simp only [swp]; grind, fun x => by
          have := bp x; have := sm x; have := bp r; have := bp b; have := sm r; simp only [swp]; grind, fun x hx => by
          have i1 := h1.inv x
          have q1 := pr x; have q2 := pr r; have := bp r; have := bp b
          simp only [swp]
          grind⟩
        have := bp r; have := bp b; have := sm r
        exact ⟨c + 1, d, by omega, .miss (o := b) (by grind) (by grind) h4, .hit (by grind) h5⟩
  · have mb : m b = b := by
      by_cases e : m b = b
      · exact e
      · have := h1.dif b e
        simp only [swp] at this
        grind
    refine ⟨fun x => if x = r then b else if x = b then r else m x, ⟨fun x => ?_, fun x hx => ?_⟩, fun C D hs => ?_⟩
    · have i1 := h1.inv x
      grind
    · have i1 := h1.dif x
      simp only [swp] at i1
      grind
    · have bp := hs.both
      have sm := hs.some
      have pr := hs.pair
      by_cases hC : C r
      · obtain ⟨c, d, h3, h4, h5⟩ := h2 C (swp D b r) ⟨fun x => by
          have := bp x; have := sm x; have := bp r; have := bp b; have q2 := pr r; simp only [swp]; grind, fun x => by
          have := bp x; have := sm x; have := bp r; have := bp b; have := sm b; have q2 := pr r; simp only [swp]; grind, fun x hx => by
          have i1 := h1.inv x
          have q1 := pr x; have q2 := pr r; have := bp r; have := bp b
          grind⟩
        have := bp r; have := bp b; have := sm r; have := sm b; have q2 := pr r
        exact ⟨c, d + 1, by omega, .hit hC h4, .miss (o := b) (by grind) (by grind) h5⟩
      · obtain ⟨c, d, h3, h4, h5⟩ := h2 (swp C b r) D ⟨fun x => by
          have := bp x; have := sm x; have := bp r; have := bp b; have := sm r; have q2 := pr r; simp only [swp]; grind, fun x => by
          have := bp x; have := sm x; have := bp r; have := bp b; have := sm r; have q2 := pr r; simp only [swp]; grind, fun x hx => by
          have i1 := h1.inv x
          have q1 := pr x; have q2 := pr r; have := bp r; have := bp b
          simp only [swp]
          grind⟩
        have := bp r; have := bp b; have := sm r; have q2 := pr r
        exact ⟨c + 1, d, by omega, .miss (o := b) (by grind) (by grind) h4, .hit (by grind) h5⟩
/-- both sets have the request -/
theorem cvx_hit {r : Int} {X : List Int} {A B : Int → Prop} {n : Nat} (hA : A r) (hB : B r) (h : Cvx X A B n) : Cvx (r :: X) A B n := by
  obtain ⟨m, h1, h2⟩ := h
  refine ⟨m, h1, fun C D hs => ?_⟩
  obtain ⟨c, d, h3, h4, h5⟩ := h2 C D hs
  have := (hs.both r).2 ⟨hA, hB⟩
  exact ⟨c, d, h3, .hit this.1 h4, .hit this.2 h5⟩
/-- no set has it, the same page leaves -/
theorem cvx_same {r a : Int} {X : List Int} {A B : Int → Prop} {n : Nat} (hA : ¬ A r) (hB : ¬ B r) (haA : A a) (haB : B a) (h : Cvx X (swp A a r) (swp B a r) n) : Cvx (r :: X) A B (n + 2) := by
  obtain ⟨m, h1, h2⟩ := h
  refine ⟨m, ⟨h1.inv, fun x hx => ?_⟩, fun C D hs => ?_⟩
  · have := h1.dif x hx
    simp only [swp] at this
    grind
  · have bp := hs.both
    have sm := hs.some
    have pr := hs.pair
    have b1 := bp r; have b2 := bp a; have s1 := sm r
    obtain ⟨c, d, h3, h4, h5⟩ := h2 (swp C a r) (swp D a r) ⟨fun x => by
      have := bp x; simp only [swp]; grind, fun x => by
      have := sm x; simp only [swp]; grind, fun x hx => by
      have i0 := h1.inv x
      have i1 := h1.dif x hx; have i2 := h1.dif (m x) (by rw [i0]; exact fun e => hx e.symm); have := pr x hx
      simp only [swp] at i1 i2 ⊢
      grind⟩
    exact ⟨c + 1, d + 1, by omega, .miss (o := a) (by grind) (by grind) h4, .miss (o := a) (by grind) (by grind) h5⟩
/-- each set gives a page that the other one has not -/
theorem cvx_out {r a b : Int} {X : List Int} {A B : Int → Prop} {n : Nat} (hA : ¬ A r) (hB : ¬ B r) (haA : A a) (haB : ¬ B a) (hbB : B b) (hbA : ¬ A b) (h : Cvx X (swp A a r) (swp B b r) n) : Cvx (r :: X) A B (n + 2) := by
  obtain ⟨m, h1, h2⟩ := h
  have ma : m a = a := by
    by_cases e : m a = a
    · exact e
    · have := h1.dif a e
      simp only [swp] at this
      grind
  have mb : m b = b := by
    by_cases e : m b = b
    · exact e
    · have := h1.dif b e
      simp only [swp] at this
      grind
  have mr : m r = r := by
    by_cases e : m r = r
    · exact e
    · have := h1.dif r e
      simp only [swp] at this
      grind
  refine ⟨fun x => if x = a then b else if x = b then a else m x, ⟨fun x => ?_, fun x hx => ?_⟩, fun C D hs => ?_⟩
  · have i1 := h1.inv x
    grind
  · have i1 := h1.dif x
    simp only [swp] at i1
    grind
  · have bp := hs.both
    have sm := hs.some
    have pr := hs.pair
    have b1 := bp r; have b2 := bp a; have b3 := bp b; have s1 := sm r; have s2 := sm a; have s3 := sm b
    have q2 := pr a
    by_cases hC : C a
    · obtain ⟨c, d, h3, h4, h5⟩ := h2 (swp C a r) (swp D b r) ⟨fun x => by
        have := bp x; have := sm x; simp only [swp]; grind, fun x => by
        have := bp x; have := sm x; simp only [swp]; grind, fun x hx => by
        have i0 := h1.inv x
        have i1 := h1.dif x hx; have i2 := h1.dif (m x) (by rw [i0]; exact fun e => hx e.symm); have := pr x
        simp only [swp] at i1 i2 ⊢
        grind⟩
      exact ⟨c + 1, d + 1, by omega, .miss (o := a) (by grind) (by grind) h4, .miss (o := b) (by grind) (by grind) h5⟩
    · obtain ⟨c, d, h3, h4, h5⟩ := h2 (swp C b r) (swp D a r) ⟨fun x => by
        have := bp x; have := sm x; simp only [swp]; grind, fun x => by
        have := bp x; have := sm x; simp only [swp]; grind, fun x hx => by
        have i0 := h1.inv x
        have i1 := h1.dif x hx; have i2 := h1.dif (m x) (by rw [i0]; exact fun e => hx e.symm); have := pr x
        simp only [swp] at i1 i2 ⊢
        grind⟩
      exact ⟨c + 1, d + 1, by omega, .miss (o := b) (by grind) (by grind) h4, .miss (o := a) (by grind) (by grind) h5⟩
/-- one gives a page that both have, the other one a page of its own -/
theorem cvx_in {r a b : Int} {X : List Int} {A B : Int → Prop} {n : Nat} (hA : ¬ A r) (hB : ¬ B r) (haA : A a) (haB : B a) (hbB : B b) (hbA : ¬ A b) (h : Cvx X (swp A a r) (swp B b r) n) : Cvx (r :: X) A B (n + 2) := by
  obtain ⟨m, h1, h2⟩ := h
  have hab : a ≠ b := fun e => hbA (e ▸ haA)
  have mb : m b = b := by
    by_cases e : m b = b
    · exact e
    · have := h1.dif b e
      simp only [swp] at this
      grind
  have mr : m r = r := by
    by_cases e : m r = r
    · exact e
    · have := h1.dif r e
      simp only [swp] at this
      grind
  have i3 := h1.inv a
  have i4 := h1.dif a
  have i5 := h1.dif (m a)
  simp only [swp] at i4 i5
  refine ⟨fun x => if x = a then a else if x = b then (if m a = a then b else m a) else if x = m a then b else m x, ⟨fun x => ?_, fun x hx => ?_⟩, fun C D hs => ?_⟩
  · have i1 := h1.inv x
    grind
  · have i1 := h1.dif x
    simp only [swp] at i1
    grind
  · have bp := hs.both
    have sm := hs.some
    have pr := hs.pair
    have b1 := bp r; have b2 := bp a; have b3 := bp b; have s1 := sm r; have s2 := sm a; have s3 := sm b
    have q2 := pr b; have q3 := pr (m a)
    by_cases hC : C b
    · obtain ⟨c, d, h3, h4, h5⟩ := h2 (swp C b r) (swp D a r) ⟨fun x => by
        have := bp x; have := sm x; simp only [swp]; grind, fun x => by
        have := bp x; have := sm x; simp only [swp]; grind, fun x hx => by
        have i0 := h1.inv x
        have i1 := h1.dif x hx; have i2 := h1.dif (m x) (by rw [i0]; exact fun e => hx e.symm); have := pr x
        simp only [swp] at i1 i2 ⊢
        grind⟩
      exact ⟨c + 1, d + 1, by omega, .miss (o := b) (by grind) (by grind) h4, .miss (o := a) (by grind) (by grind) h5⟩
    · obtain ⟨c, d, h3, h4, h5⟩ := h2 (swp C a r) (swp D b r) ⟨fun x => by
        have := bp x; have := sm x; simp only [swp]; grind, fun x => by
        have := bp x; have := sm x; simp only [swp]; grind, fun x hx => by
        have i0 := h1.inv x
        have i1 := h1.dif x hx; have i2 := h1.dif (m x) (by rw [i0]; exact fun e => hx e.symm); have := pr x
        simp only [swp] at i1 i2 ⊢
        grind⟩
      exact ⟨c + 1, d + 1, by omega, .miss (o := a) (by grind) (by grind) h4, .miss (o := b) (by grind) (by grind) h5⟩
/-- each gives a page that both have -/
theorem cvx_both {r a b : Int} {X : List Int} {A B : Int → Prop} {n : Nat} (hA : ¬ A r) (hB : ¬ B r) (haA : A a) (haB : B a) (hbB : B b) (hbA : A b) (hab : a ≠ b) (h : Cvx X (swp A a r) (swp B b r) n) : Cvx (r :: X) A B (n + 2) := by
  obtain ⟨m, h1, h2⟩ := h
  have mr : m r = r := by
    by_cases e : m r = r
    · exact e
    · have := h1.dif r e
      simp only [swp] at this
      grind
  have i3 := h1.inv a
  have i4 := h1.dif a
  have i5 := h1.dif (m a)
  have j3 := h1.inv b
  have j4 := h1.dif b
  have j5 := h1.dif (m b)
  simp only [swp] at i4 i5 j4 j5
  refine ⟨fun x => if x = a ∨ x = b then x else if x = m a then (if m b = b ∨ m a = b then x else m b) else if x = m b then (if m a = a then x else m a) else m x, ⟨fun x => ?_, fun x hx => ?_⟩, fun C D hs => ?_⟩
  · have i1 := h1.inv x
    grind
  · have i1 := h1.dif x
    simp only [swp] at i1
    grind
  · have bp := hs.both
    have sm := hs.some
    have pr := hs.pair
    have b1 := bp r; have b2 := bp a; have b3 := bp b; have s1 := sm r; have s2 := sm a; have s3 := sm b
    have q2 := pr (m a); have q3 := pr (m b)
    by_cases hC : (m a ≠ a ∧ C (m a)) ∨ (m a = a ∧ (m b ≠ b ∧ ¬ C (m b)))
    · obtain ⟨c, d, h3, h4, h5⟩ := h2 (swp C a r) (swp D b r) ⟨fun x => by
        have := bp x; have := sm x; simp only [swp]; grind, fun x => by
        have := bp x; have := sm x; simp only [swp]; grind, fun x hx => by
        have i0 := h1.inv x
        have i1 := h1.dif x hx; have i2 := h1.dif (m x) (by rw [i0]; exact fun e => hx e.symm); have := pr x
        simp only [swp] at i1 i2 ⊢
        grind⟩
      exact ⟨c + 1, d + 1, by omega, .miss (o := a) (by grind) (by grind) h4, .miss (o := b) (by grind) (by grind) h5⟩
    · obtain ⟨c, d, h3, h4, h5⟩ := h2 (swp C b r) (swp D a r) ⟨fun x => by
        have := bp x; have := sm x; simp only [swp]; grind, fun x => by
        have := bp x; have := sm x; simp only [swp]; grind, fun x hx => by
        have i0 := h1.inv x
        have i1 := h1.dif x hx; have i2 := h1.dif (m x) (by rw [i0]; exact fun e => hx e.symm); have := pr x
        simp only [swp] at i1 i2 ⊢
        grind⟩
      exact ⟨c + 1, d + 1, by omega, .miss (o := b) (by grind) (by grind) h4, .miss (o := a) (by grind) (by grind) h5⟩
theorem run_cvx : ∀ {X : List Int} {A B : Int → Prop} {a b : Nat}, Run X A a → Run X B b → Cvx X A B (a + b)
  | [], A, B, a, b, _, _ => ⟨fun x => x, ⟨fun _ => rfl, fun x hx => absurd rfl hx⟩, fun C D _ => ⟨0, 0, by omega, .nil _, .nil _⟩⟩
  | r :: X, A, B, a, b, hA, hB => by
    cases hA with
    | hit hr hA =>
      cases hB with
      | hit hr2 hB => exact cvx_hit hr hr2 (run_cvx hA hB)
      | @miss _ y _ _ b0 hn hy hB => exact cvx_one hr hn hy (run_cvx hA hB)
    | @miss _ x _ _ a0 hn hx hA =>
      cases hB with
      | hit hr2 hB =>
        have h := (cvx_one hr2 hn hx (run_cvx hB hA)).symm
        rw [show a0 + 1 + b = b + a0 + 1 by omega]
        exact h
      | @miss _ y _ _ b0 hn2 hy hB =>
        have h := run_cvx hA hB
        rw [show a0 + 1 + (b0 + 1) = a0 + b0 + 2 by omega]
        by_cases hxB : B x
        · by_cases hyA : A y
          · by_cases e : x = y
            · subst e; exact cvx_same hn hn2 hx hxB h
            · exact cvx_both hn hn2 hx hxB hy hyA e h
          · exact cvx_in hn hn2 hx hxB hy hyA h
        · by_cases hyA : A y
          · exact (cvx_in hn2 hn hy hyA hx hxB h.symm).symm
          · exact cvx_out hn hn2 hx hxB hy hyA h
end Go.Proofs.Ytmabejallkjjmaa
