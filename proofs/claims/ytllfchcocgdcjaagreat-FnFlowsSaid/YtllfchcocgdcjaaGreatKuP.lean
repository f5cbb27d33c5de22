/- Rows that have different columns: the search by turns is right, and two coverings give one; in plain words. -/
import Derived.Test.YtllfchcocgdcjaaGreatAsH
namespace Go.Proofs.YtllfchcocgdcjaaGreat

/-- Two matchings, one of all rows and one of some columns, give one of all rows that has these columns. -/
theorem both_cover {G : Nat → Nat → Prop} {n m : Nat} {f : Nat → Nat} {B : Nat → Prop} {g : Nat → Nat} (hf : ∀ i, i < n → f i < m ∧ G i (f i)) (fi : ∀ i j, i < n → j < n → f i = f j → i = j)
    (hg : ∀ l, l < m → B l → g l < n ∧ G (g l) l) (gi : ∀ l k, l < m → k < m → B l → B k → g l = g k → l = k) :
    ∃ h : Nat → Nat, (∀ i, i < n → h i < m ∧ G i (h i)) ∧ (∀ i j, i < n → j < n → h i = h j → i = j) ∧ ∀ l, l < m → B l → ∃ i, i < n ∧ h i = l := by
  classical
  -- the columns of chains that begin outside the first matching
  let D : Nat → Nat → Prop := fun t l => Nat.rec (motive := fun _ => Nat → Prop) (fun l => l < m ∧ B l ∧ ∀ i, i < n → f i ≠ l) (fun _ P l => l < m ∧ B l ∧ ∃ k, P k ∧ l = f (g k)) t l
  let E : Nat → Prop := fun l => ∃ t, D t l
  have hE : ∀ l, E l → l < m ∧ B l := by
    rintro l ⟨t, ht⟩
    cases t with
    | zero => exact ⟨ht.1, ht.2.1⟩
    | succ t => exact ⟨ht.1, ht.2.1⟩
  have step : ∀ k, E k → B (f (g k)) → E (f (g k)) := by
    rintro k ⟨t, ht⟩ hb
    obtain ⟨hk, hkB⟩ := hE k ⟨t, ht⟩
    exact ⟨t + 1, (hf _ (hg k hk hkB).1).1, hb, k, ht, rfl⟩
  have back : ∀ l, E l → (∀ i, i < n → f i ≠ l) ∨ ∃ k, E k ∧ l = f (g k) := by
    rintro l ⟨t, ht⟩
    cases t with
    | zero => exact .inl ht.2.2
    | succ t => obtain ⟨_, _, k, hk, hl⟩ := ht; exact .inr ⟨k, ⟨t, hk⟩, hl⟩
  have base : ∀ l, l < m → B l → (∀ i, i < n → f i ≠ l) → E l := fun l hl hb hn => ⟨0, hl, hb, hn⟩
  let h : Nat → Nat := fun i => if hx : ∃ l, E l ∧ g l = i then Classical.choose hx else f i
  have h1 : ∀ l, E l → h (g l) = l := by
    intro l hl
    have hx : ∃ k, E k ∧ g k = g l := ⟨l, hl, rfl⟩
    show (if hx : ∃ k, E k ∧ g k = g l then Classical.choose hx else f (g l)) = l
    rw [dif_pos hx]
    have hs := Classical.choose_spec hx
    exact gi _ _ (hE _ hs.1).1 (hE l hl).1 (hE _ hs.1).2 (hE l hl).2 hs.2
  have h2 : ∀ i, (¬ ∃ l, E l ∧ g l = i) → h i = f i := by
    intro i hn
    show (if hx : ∃ k, E k ∧ g k = i then Classical.choose hx else f i) = f i
    rw [dif_neg hn]
  refine ⟨h, fun i hi => ?_, fun i j hi hj hij => ?_, fun l hl hb => ?_⟩
  · by_cases hx : ∃ l, E l ∧ g l = i
    · obtain ⟨l, hl, rfl⟩ := hx
      rw [h1 l hl]
      exact ⟨(hE l hl).1, (hg l (hE l hl).1 (hE l hl).2).2⟩
    · rw [h2 i hx]
      exact hf i hi
  · by_cases hx : ∃ l, E l ∧ g l = i
    · obtain ⟨l, hl, rfl⟩ := hx
      rw [h1 l hl] at hij
      by_cases hy : ∃ k, E k ∧ g k = j
      · obtain ⟨k, hk, rfl⟩ := hy
        rw [h1 k hk] at hij
        rw [hij]
      · exfalso
        rw [h2 j hy] at hij
        rcases back l hl with hn | ⟨k, hk, he⟩
        · exact hn j hj hij.symm
        · exact hy ⟨k, hk, fi _ _ (hg k (hE k hk).1 (hE k hk).2).1 hj (he.symm.trans hij)⟩
    · rw [h2 i hx] at hij
      by_cases hy : ∃ k, E k ∧ g k = j
      · exfalso
        obtain ⟨k, hk, rfl⟩ := hy
        rw [h1 k hk] at hij
        rcases back k hk with hn | ⟨k', hk', he⟩
        · exact hn i hi hij
        · exact hx ⟨k', hk', fi _ _ (hg k' (hE k' hk').1 (hE k' hk').2).1 hi (he.symm.trans hij.symm)⟩
      · rw [h2 j hy] at hij
        exact fi i j hi hj hij
  · by_cases he : E l
    · exact ⟨g l, (hg l hl hb).1, h1 l he⟩
    · by_cases hn : ∀ i, i < n → f i ≠ l
      · exact absurd (base l hl hb hn) he
      · obtain ⟨i, hn⟩ := Classical.not_forall.1 hn
        rw [Classical.not_imp, Classical.not_not] at hn
        obtain ⟨hi, hfl⟩ := hn
        refine ⟨i, hi, ?_⟩
        rw [h2 i ?_]
        · exact hfl
        · rintro ⟨k, hk, rfl⟩
          exact he (hfl ▸ step k hk (hfl.symm ▸ hb))
theorem ku_put {L : List Int} {i j : Nat} {x : Int} (h : i < L.length) : nth (L.set i x) j = if j = i then x else nth L j := by
  unfold nth
  rw [List.getD_eq_getElem?_getD, List.getElem?_set, List.getD_eq_getElem?_getD]
  by_cases e : i = j
  · subst e
    simp [h]
  · rw [if_neg e, if_neg (fun q => e q.symm)]
/-- columns that are held by rows -/
structure TP (G : Nat → Nat → Bool) (R C : Nat) (H : List Int) (S : Nat → Bool) : Prop where
  len : H.length = C
  ok : ∀ i, i < C → nth H i = -1 ∨ ∃ r : Nat, r < R ∧ nth H i = (r : Int) ∧ G r i = true
  inj : ∀ i j, i < C → j < C → S i = false → S j = false → 0 ≤ nth H i → nth H i = nth H j → i = j
/-- a row that holds no column but those seen -/
def Fr (C : Nat) (H : List Int) (S : Nat → Bool) (r : Nat) : Prop := ∀ i, i < C → S i = false → nth H i ≠ (r : Int)
/-- the row was laid in -/
structure TY (G : Nat → Nat → Bool) (R C : Nat) (H : List Int) (S : Nat → Bool) (r : Nat) (H' : List Int) : Prop where
  tp : TP G R C H' S
  keep : ∀ i, i < C → S i = true → nth H' i = nth H i
  rows : ∀ x : Nat, (∃ i, i < C ∧ S i = false ∧ nth H' i = (x : Int)) ↔ (x = r ∨ ∃ i, i < C ∧ S i = false ∧ nth H i = (x : Int))
/-- the columns below k were tried in vain -/
structure TN (G : Nat → Nat → Bool) (C : Nat) (H : List Int) (S0 : Nat → Bool) (r : Nat) (S : Nat → Bool) (k : Nat) : Prop where
  mono : ∀ i, S0 i = true → S i = true
  nb : ∀ i, i < k → G r i = true → S i = true
  cl : ∀ i, i < C → S i = true → S0 i = false → 0 ≤ nth H i ∧ ∀ q : Nat, nth H i = (q : Int) → ∀ j, j < C → G q j = true → S j = true
def putS (S : Nat → Bool) (i : Nat) : Nat → Bool := fun j => if j = i then true else S j
theorem putS_at (S : Nat → Bool) (i : Nat) : putS S i i = true := if_pos rfl
theorem putS_of {S : Nat → Bool} {i j : Nat} (h : S j = true) : putS S i j = true := by unfold putS; split <;> first | rfl | exact h
theorem putS_no {S : Nat → Bool} {i j : Nat} (h : putS S i j = false) : j ≠ i ∧ S j = false := by
  unfold putS at h
  split at h
  · cases h
  · rename_i e; exact ⟨e, h⟩
theorem putS_ne {S : Nat → Bool} {i j : Nat} (h : j ≠ i) : putS S i j = S j := if_neg h
variable {G : Nat → Nat → Bool} {R C : Nat} {H : List Int} {S S0 : Nat → Bool} {r : Nat}
theorem TP.sub (h : TP G R C H S0) (hs : ∀ i, S0 i = true → S i = true) : TP G R C H S :=
  ⟨h.len, h.ok, fun i j hi hj h1 h2 => h.inj i j hi hj (Bool.eq_false_iff.2 fun q => by rw [hs i q] at h1; cases h1) (Bool.eq_false_iff.2 fun q => by rw [hs j q] at h2; cases h2)⟩
theorem Fr.sub (h : Fr C H S0 r) (hs : ∀ i, S0 i = true → S i = true) : Fr C H S r :=
  fun i hi h1 => h i hi (Bool.eq_false_iff.2 fun q => by rw [hs i q] at h1; cases h1)
theorem TN.begin : TN G C H S r S 0 := ⟨fun _ h => h, fun i hi => by omega, fun i _ h1 h2 => by rw [h1] at h2; cases h2⟩
theorem TN.skip {k : Nat} (h : TN G C H S0 r S k) (hg : G r k = false ∨ S k = true) : TN G C H S0 r S (k + 1) :=
  ⟨h.mono, fun i hi g => by
    by_cases e : i = k
    · subst e
      rcases hg with hg | hg
      · rw [hg] at g; cases g
      · exact hg
    · exact h.nb i (by omega) g, h.cl⟩
/-- a column that is free -/
theorem TY.free (h : TP G R C H S) (hf : Fr C H S r) (hr : r < R) {i : Nat} (hi : i < C) (hs : S i = false) (hg : G r i = true) (hn : nth H i < 0) : TY G R C H S r (H.set i (r : Int)) := by
  have hl : i < H.length := by rw [h.len]; exact hi
  refine ⟨⟨by rw [List.length_set]; exact h.len, fun j hj => ?_, fun j k hj hk sj sk h0 he => ?_⟩, fun j hj sj => ?_, fun x => ⟨?_, ?_⟩⟩
  · rw [ku_put hl]
    split
    · rename_i e; subst e; exact .inr ⟨r, hr, rfl, hg⟩
    · exact h.ok j hj
  · rw [ku_put hl] at he h0
    rw [ku_put hl] at he
    by_cases e1 : j = i
    · by_cases e2 : k = i
      · omega
      · rw [if_pos e1, if_neg e2] at he
        exact absurd he.symm (hf k hk sk)
    · by_cases e2 : k = i
      · rw [if_neg e1, if_pos e2] at he
        exact absurd he (hf j hj sj)
      · rw [if_neg e1, if_neg e2] at he
        rw [if_neg e1] at h0
        exact h.inj j k hj hk sj sk h0 he
  · rw [ku_put hl, if_neg (fun e => by subst e; rw [hs] at sj; cases sj)]
  · rintro ⟨j, hj, sj, he⟩
    rw [ku_put hl] at he
    split at he
    · left; omega
    · exact .inr ⟨j, hj, sj, he⟩
  · rintro (rfl | ⟨j, hj, sj, he⟩)
    · exact ⟨i, hi, hs, by rw [ku_put hl, if_pos rfl]⟩
    · refine ⟨j, hj, sj, ?_⟩
      rw [ku_put hl, if_neg (fun e => by subst e; omega)]
      exact he
/-- a column whose row found another one -/
theorem TY.turn {H1 : List Int} {q : Nat} (hf : Fr C H S r) (hr : r < R) {i : Nat} (hi : i < C) (hs : S i = false) (hg : G r i = true) (hq : nth H i = (q : Int)) (hy : TY G R C H (putS S i) q H1) :
    TY G R C H S r (H1.set i (r : Int)) := by
  have hl : i < H1.length := by rw [hy.tp.len]; exact hi
  have hr1 : ∀ j, j < C → S j = false → j ≠ i → ∃ k, k < C ∧ S k = false ∧ (0 ≤ nth H1 j → nth H k = nth H1 j) := by
    intro j hj sj hne
    rcases hy.tp.ok j hj with h1 | ⟨x, _, hx, _⟩
    · exact ⟨j, hj, sj, fun h0 => by omega⟩
    · rcases (hy.rows x).1 ⟨j, hj, by rw [putS_ne hne]; exact sj, hx⟩ with rfl | ⟨k, hk, sk, he⟩
      · exact ⟨i, hi, hs, fun _ => by rw [hq, hx]⟩
      · exact ⟨k, hk, (putS_no sk).2, fun _ => by rw [he, hx]⟩
  refine ⟨⟨by rw [List.length_set]; exact hy.tp.len, fun j hj => ?_, fun j k hj hk sj sk h0 he => ?_⟩, fun j hj sj => ?_, fun x => ⟨?_, ?_⟩⟩
  · rw [ku_put hl]
    split
    · rename_i e; subst e; exact .inr ⟨r, hr, rfl, hg⟩
    · exact hy.tp.ok j hj
  · rw [ku_put hl] at he h0
    rw [ku_put hl] at he
    by_cases e1 : j = i
    · by_cases e2 : k = i
      · omega
      · rw [if_pos e1, if_neg e2] at he
        obtain ⟨t, ht, st, e⟩ := hr1 k hk sk e2
        exact absurd (by rw [e (by omega)]; exact he.symm) (hf t ht st)
    · by_cases e2 : k = i
      · rw [if_neg e1, if_pos e2] at he
        obtain ⟨t, ht, st, e⟩ := hr1 j hj sj e1
        exact absurd (by rw [e (by omega)]; exact he) (hf t ht st)
      · rw [if_neg e1, if_neg e2] at he
        rw [if_neg e1] at h0
        exact hy.tp.inj j k hj hk (by rw [putS_ne e1]; exact sj) (by rw [putS_ne e2]; exact sk) h0 he
  · have hne : j ≠ i := fun e => by subst e; rw [hs] at sj; cases sj
    rw [ku_put hl, if_neg hne]
    exact hy.keep j hj (putS_of sj)
  · rintro ⟨j, hj, sj, he⟩
    rw [ku_put hl] at he
    split at he
    · left; omega
    · rename_i hne
      obtain ⟨t, ht, st, e⟩ := hr1 j hj sj hne
      exact .inr ⟨t, ht, st, by rw [e (by omega)]; exact he⟩
  · rintro (rfl | ⟨j, hj, sj, he⟩)
    · exact ⟨i, hi, hs, by rw [ku_put hl, if_pos rfl]⟩
    · have hx : ∃ t, t < C ∧ putS S i t = false ∧ nth H1 t = (x : Int) := by
        by_cases e : j = i
        · subst e
          exact (hy.rows x).2 (.inl (by omega))
        · exact (hy.rows x).2 (.inr ⟨j, hj, by rw [putS_ne e]; exact sj, he⟩)
      obtain ⟨t, ht, st, e⟩ := hx
      exact ⟨t, ht, (putS_no st).2, by rw [ku_put hl, if_neg (putS_no st).1]; exact e⟩
/-- what was seen in vain may be left out again -/
theorem TY.weaken {H' : List Int} (h : TP G R C H S0) (hf : Fr C H S0 r) (hs : ∀ i, S0 i = true → S i = true) (hy : TY G R C H S r H') : TY G R C H S0 r H' := by
  have hk : ∀ j, j < C → S j = true → nth H' j = nth H j := hy.keep
  refine ⟨⟨hy.tp.len, hy.tp.ok, fun j k hj hk' sj sk h0 he => ?_⟩, fun j hj sj => hk j hj (hs j sj), fun x => ⟨?_, ?_⟩⟩
  · have mixed : ∀ j k, j < C → k < C → S0 j = false → S0 k = false → S j = false → S k = true → 0 ≤ nth H' j → nth H' j = nth H' k → False := by
      intro j k hj hk' sj sk s1 s2 h0 he
      rcases hy.tp.ok j hj with h1 | ⟨x, _, hx, _⟩
      · omega
      · have hxk : nth H k = (x : Int) := by rw [← hk k hk' s2, ← he, hx]
        rcases (hy.rows x).1 ⟨j, hj, s1, hx⟩ with rfl | ⟨t, ht, st, e⟩
        · exact hf k hk' sk hxk
        · have st0 : S0 t = false := Bool.eq_false_iff.2 fun q => by rw [hs t q] at st; cases st
          have : t = k := h.inj t k ht hk' st0 sk (by omega) (by rw [e, hxk])
          subst this
          rw [s2] at st; cases st
    cases s1 : S j with
    | false =>
      cases s2 : S k with
      | false => exact hy.tp.inj j k hj hk' s1 s2 h0 he
      | true => exact (mixed j k hj hk' sj sk s1 s2 h0 he).elim
    | true =>
      cases s2 : S k with
      | false => exact (mixed k j hk' hj sk sj s2 s1 (by omega) he.symm).elim
      | true =>
        rw [hk j hj s1] at he h0
        rw [hk k hk' s2] at he
        exact h.inj j k hj hk' sj sk h0 he
  · rintro ⟨j, hj, sj, he⟩
    cases s1 : S j with
    | false =>
      rcases (hy.rows x).1 ⟨j, hj, s1, he⟩ with e | ⟨t, ht, st, e⟩
      · exact .inl e
      · exact .inr ⟨t, ht, Bool.eq_false_iff.2 (fun q => by rw [hs t q] at st; cases st), e⟩
    | true => exact .inr ⟨j, hj, sj, by rw [← hk j hj s1]; exact he⟩
  · have up : (∃ i, i < C ∧ S i = false ∧ nth H' i = (x : Int)) → ∃ i, i < C ∧ S0 i = false ∧ nth H' i = (x : Int) := by
      rintro ⟨t, ht, st, e⟩
      exact ⟨t, ht, Bool.eq_false_iff.2 (fun q => by rw [hs t q] at st; cases st), e⟩
    rintro (rfl | ⟨j, hj, sj, he⟩)
    · exact up ((hy.rows x).2 (.inl rfl))
    · cases s1 : S j with
      | false => exact up ((hy.rows x).2 (.inr ⟨j, hj, s1, he⟩))
      | true => exact ⟨j, hj, sj, by rw [hk j hj s1]; exact he⟩
/-- a column whose row found no other one -/
theorem TN.fail {q : Nat} {S' : Nat → Bool} {k : Nat} (h : TN G C H S0 r S k) (hk : k < C) (hs : S k = false) (hq : nth H k = (q : Int)) (hn : TN G C H (putS S k) q S' C) : TN G C H S0 r S' (k + 1) := by
  refine ⟨fun i hi => hn.mono i (putS_of (h.mono i hi)), fun i hi g => ?_, fun i hi s1 s0 => ?_⟩
  · by_cases e : i = k
    · subst e
      exact hn.mono i (putS_at S i)
    · exact hn.mono i (putS_of (h.nb i (by omega) g))
  · by_cases e : i = k
    · subst e
      refine ⟨by omega, fun x hx j hj g => hn.nb j hj ?_⟩
      rw [show q = x by omega]
      exact g
    · cases s2 : S i with
      | true =>
        obtain ⟨h1, h2⟩ := h.cl i hi s2 s0
        exact ⟨h1, fun x hx j hj g => hn.mono j (putS_of (h2 x hx j hj g))⟩
      | false => exact hn.cl i hi s1 (by rw [putS_ne e]; exact s2)
/-- the rows below k that are wanted have columns -/
structure CV (G : Nat → Nat → Bool) (R C : Nat) (X : Nat → Bool) (H : List Int) (k : Nat) : Prop where
  tp : TP G R C H (fun _ => false)
  rows : ∀ x : Nat, (∃ i, i < C ∧ nth H i = (x : Int)) ↔ (x < k ∧ X x = true)
/-- the wanted rows can have different columns each -/
def Cov (G : Nat → Nat → Bool) (R C : Nat) (X : Nat → Bool) : Prop := ∃ g : Nat → Nat, (∀ x, x < R → X x = true → g x < C ∧ G x (g x) = true) ∧ ∀ x y, x < R → y < R → X x = true → X y = true → g x = g y → x = y
variable {X : Nat → Bool} {k : Nat}
theorem CV.begin (hl : H.length = C) (hn : ∀ i, i < C → nth H i = -1) : CV G R C X H 0 :=
  ⟨⟨hl, fun i hi => .inl (hn i hi), fun i j hi _ _ _ h0 _ => by have := hn i hi; omega⟩, fun x => ⟨fun ⟨i, hi, he⟩ => by have := hn i hi; omega, fun h => by omega⟩⟩
theorem CV.skip (h : CV G R C X H k) (hx : X k = false) : CV G R C X H (k + 1) :=
  ⟨h.tp, fun x => (h.rows x).trans ⟨fun q => ⟨by omega, q.2⟩, fun q => ⟨by
    by_cases e : x = k
    · subst e; rw [hx] at q; cases q.2
    · omega, q.2⟩⟩⟩
theorem CV.free (h : CV G R C X H k) : Fr C H (fun _ => false) k := fun i hi _ he => by
  have := (h.rows k).1 ⟨i, hi, he⟩
  omega
theorem CV.yes {H' : List Int} (h : CV G R C X H k) (hx : X k = true) (hy : TY G R C H (fun _ => false) k H') : CV G R C X H' (k + 1) := by
  refine ⟨hy.tp, fun x => ?_⟩
  have h1 := hy.rows x
  have e : ∀ L : List Int, (∃ i, i < C ∧ (false : Bool) = false ∧ nth L i = (x : Int)) ↔ ∃ i, i < C ∧ nth L i = (x : Int) := fun L => ⟨fun ⟨i, a, _, b⟩ => ⟨i, a, b⟩, fun ⟨i, a, b⟩ => ⟨i, a, rfl, b⟩⟩
  rw [e, e, h.rows x] at h1
  rw [h1]
  refine ⟨?_, fun q => ?_⟩
  · rintro (rfl | q)
    · exact ⟨by omega, hx⟩
    · exact ⟨by omega, q.2⟩
  · by_cases e : x = k
    · exact .inl e
    · exact .inr ⟨by omega, q.2⟩
theorem CV.all (h : CV G R C X H R) : Cov G R C X := by
  classical
  refine ⟨fun x => if hx : ∃ i, i < C ∧ nth H i = (x : Int) then Classical.choose hx else 0, fun x hx xx => ?_, fun x y hx hy xx xy he => ?_⟩
  · have hq := (h.rows x).2 ⟨hx, xx⟩
    show (if hx : ∃ i, i < C ∧ nth H i = (x : Int) then Classical.choose hx else 0) < C ∧ G x (if hx : ∃ i, i < C ∧ nth H i = (x : Int) then Classical.choose hx else 0) = true
    rw [dif_pos hq]
    have hs := Classical.choose_spec hq
    refine ⟨hs.1, ?_⟩
    rcases h.tp.ok _ hs.1 with h1 | ⟨r, _, h1, h2⟩
    · omega
    · rw [show r = x by omega] at h2; exact h2
  · have hq := (h.rows x).2 ⟨hx, xx⟩
    have hp := (h.rows y).2 ⟨hy, xy⟩
    have he' : (if hx : ∃ i, i < C ∧ nth H i = (x : Int) then Classical.choose hx else 0) = (if hx : ∃ i, i < C ∧ nth H i = (y : Int) then Classical.choose hx else 0) := he
    rw [dif_pos hq, dif_pos hp] at he'
    have s1 := (Classical.choose_spec hq).2
    have s2 := (Classical.choose_spec hp).2
    rw [he'] at s1
    omega
theorem CV.no (h : CV G R C X H k) (hk : k < R) (hx : X k = true) (hn : TN G C H (fun _ => false) k S C) : ¬ Cov G R C X := by
  rintro ⟨g, g1, g2⟩
  let P : Nat → Prop := fun x => x < R ∧ X x = true ∧ ∀ j, j < C → G x j = true → S j = true
  let nx : Nat → Nat := fun x => (nth H (g x)).toNat
  have hP : ∀ x, P x → P (nx x) ∧ nth H (g x) = (nx x : Int) ∧ g x < C := by
    rintro x ⟨hx1, hx2, hx3⟩
    obtain ⟨a1, a2⟩ := g1 x hx1 hx2
    have s := hx3 _ a1 a2
    obtain ⟨c1, c2⟩ := hn.cl _ a1 s rfl
    have hq : nth H (g x) = (nx x : Int) := (Int.toNat_of_nonneg c1).symm
    have hr := (h.rows (nx x)).1 ⟨_, a1, hq⟩
    exact ⟨⟨by omega, hr.2, c2 _ hq⟩, hq, a1⟩
  let sq : Nat → Nat := fun t => Nat.rec (motive := fun _ => Nat) k (fun _ x => nx x) t
  have hS : ∀ t, P (sq t) := by
    intro t
    induction t with
    | zero => exact ⟨hk, hx, fun j hj gj => hn.nb j hj gj⟩
    | succ t ih => exact (hP _ ih).1
  have inj : ∀ s t, sq (s + 1) = sq (t + 1) → sq s = sq t := by
    intro s t e
    obtain ⟨_, e1, c1⟩ := hP _ (hS s)
    obtain ⟨_, e2, c2⟩ := hP _ (hS t)
    have e' : nx (sq s) = nx (sq t) := e
    have := h.tp.inj _ _ c1 c2 rfl rfl (by omega) (by rw [e1, e2, e'])
    exact g2 _ _ (hS s).1 (hS t).1 (hS s).2.1 (hS t).2.1 this
  have ne0 : ∀ t, sq (t + 1) ≠ k := by
    intro t e
    obtain ⟨_, e1, c1⟩ := hP _ (hS t)
    exact h.free _ c1 rfl (by rw [e1]; exact congrArg Int.ofNat e)
  have dist : ∀ s t, s < t → sq s ≠ sq t := by
    intro s
    induction s with
    | zero =>
      intro t ht e
      obtain ⟨t, rfl⟩ : ∃ u, t = u + 1 := ⟨t - 1, by omega⟩
      exact ne0 t e.symm
    | succ s ih =>
      intro t ht e
      obtain ⟨t, rfl⟩ : ∃ u, t = u + 1 := ⟨t - 1, by omega⟩
      exact ih t (by omega) (inj s t e)
  have := pig (f := sq) (n := R + 1) (k := R) (fun i _ => (hS i).1) (fun i j _ _ e => by
    rcases Nat.lt_trichotomy i j with q | q | q
    · exact absurd e (dist i j q)
    · exact q
    · exact absurd e.symm (dist j i q))
  omega
end Go.Proofs.YtllfchcocgdcjaaGreat
