/- The least cost by a table of rows, in plain words: what the maps of the program hold. -/
import Derived.Test.YtohjbabjkjcddaaMapT
namespace Go.Proofs.Ytohjbabjkjcddaa
open Go.RowKit Go.Maps

/-- a map holds a number at a key -/
def At (D : DataW Unit) (kl : Lit) (c : Int) : Prop := has D kl = true ∧ ∀ z, D.atKey kl z = .lit (.int .i64 c)
def kk (s : List Int) : Lit := k3 (nth s 0) (nth s 1) (nth s 2)
def RowS (L : Nat) (s : List Int) : Prop := s.length = L ∧ ∀ x ∈ s, 0 ≤ x ∧ x ≤ 99
theorem RowS.nth {L : Nat} {s : List Int} (h : RowS L s) (k : Nat) : 0 ≤ nth s k ∧ nth s k ≤ 99 := by
  by_cases hk : k < s.length
  · exact h.2 _ (nth_mem hk)
  · have : Go.Proofs.Ytohjbabjkjcddaa.nth s k = 0 := by
      unfold Go.Proofs.Ytohjbabjkjcddaa.nth
      rw [List.getD_eq_getElem?_getD, List.getElem?_eq_none (by omega)]
      rfl
    rw [this]; omega
theorem RowS.i64 {L : Nat} {s : List Int} (h : RowS L s) (k : Nat) : I64 (Go.Proofs.Ytohjbabjkjcddaa.nth s k) := by
  have := h.nth k
  unfold I64; omega
theorem kk_inj {L : Nat} {s t : List Int} (h1 : RowS L s) (h2 : RowS L t) (hL : L ≤ 3) (e : kk s = kk t) : s = t := by
  obtain ⟨e0, e1, e2⟩ := k3_inj (h1.i64 0) (h1.i64 1) (h1.i64 2) (h2.i64 0) (h2.i64 1) (h2.i64 2) e
  refine List.ext_getElem (h1.1.trans h2.1.symm) fun k hk hk2 => ?_
  have hk3 : k = 0 ∨ k = 1 ∨ k = 2 := by have := h1.1; omega
  have e3 : Go.Proofs.Ytohjbabjkjcddaa.nth s k = Go.Proofs.Ytohjbabjkjcddaa.nth t k := by rcases hk3 with rfl | rfl | rfl <;> assumption
  simpa [Go.Proofs.Ytohjbabjkjcddaa.nth, hk, hk2] using e3
theorem kk_key {L : Nat} {s : List Int} (h : RowS L s) : WideAt.IsKeyLit (kk s) := k3_key (h.i64 0) (h.i64 1) (h.i64 2)
theorem kk_of {L : Nat} {s : List Int} (h : RowS L s) : keyOf Try.prog 68 (.agg #[.int .i64 (nth s 0), .int .i64 (nth s 1), .int .i64 (nth s 2)]) = some (kk s) := keyOf_tri (h.i64 0) (h.i64 1) (h.i64 2)
theorem At.uniq {D : DataW Unit} {kl : Lit} {c c' : Int} (h : At D kl c) (h' : At D kl c') : c = c' := by
  have e := (h.2 (.lit (.int .i64 0))).symm.trans (h'.2 (.lit (.int .i64 0)))
  cases e; rfl
/-- all that a table holds is no less than the least -/
def Cand (V : Int) (rs : List Int) (L : Nat) (m : Int) (D : DataW Unit) : Prop := ∀ kl, has D kl = true → ∃ s c, RowS L s ∧ kl = kk s ∧ At D kl c ∧ 0 ≤ c ∧ c ≤ m ∧ V ≤ c + vU rs s
/-- a table holds the least -/
def Best (V : Int) (rs : List Int) (L : Nat) (D : DataW Unit) : Prop := ∃ s c, RowS L s ∧ At D (kk s) c ∧ c + vU rs s = V
def mvR (s : List Int) (j : Nat) (r : Int) : List Int := movL s (nth s j) r
theorem mv_perm {s : List Int} {j : Nat} (r : Int) (hj : j < s.length) : (mvR s j r).Perm (s.set j r) := by
  have hm : nth s j ∈ s := nth_mem hj
  obtain ⟨h0, h1, h2⟩ := ixOf_in hm
  obtain ⟨q, hq⟩ : ∃ q : Nat, ixOf s (nth s j) = q := ⟨(ixOf s (nth s j)).toNat, by omega⟩
  rw [hq] at h1 h2
  have hql : q < s.length := by omega
  have he : nth s q = nth s j := by simpa using h2
  have e : mvR s j r = sortL (s.set q r) := by rw [mvR, movL, hq]; rfl
  rw [e]
  refine (sortL_perm _).trans ?_
  have p1 := nth_split hql
  have p2 := nth_split hj
  rw [he] at p1
  have p3 := (p1.symm.trans p2).cons_inv
  exact (set_split r hql).trans ((p3.cons r).trans (set_split r hj).symm)
theorem mv_row {L : Nat} {s : List Int} {j : Nat} {r : Int} (h : RowS L s) (hr : 0 ≤ r ∧ r ≤ 99) (hj : j < s.length) : RowS L (mvR s j r) := by
  have p := mv_perm r hj
  refine ⟨by rw [p.length_eq]; simpa using h.1, fun x hx => ?_⟩
  rcases List.mem_or_eq_of_mem_set (p.mem_iff.1 hx) with h' | h'
  · exact h.2 x h'
  · rw [h']; exact hr
theorem mv_val {s : List Int} {j : Nat} {r : Int} (rs : List Int) (hj : j < s.length) : vU rs (mvR s j r) = vU rs (s.set j r) :=
  vU_perm rs (mv_perm r hj) (by rw [(mv_perm r hj).length_eq]; simp; omega)
/-- the moves of a row that are laid into the next table -/
def Done (r : Int) (D : DataW Unit) (s : List Int) (c : Int) (j : Nat) : Prop := ∀ k, k < j → ∃ c', At D (kk (mvR s k r)) c' ∧ c' ≤ c + dst (nth s k) r
/-- a table is no worse than another one -/
def Le (D D' : DataW Unit) : Prop := ∀ kl c, At D kl c → ∃ c', At D' kl c' ∧ c' ≤ c
theorem Le.refl (D : DataW Unit) : Le D D := fun _ c h => ⟨c, h, Int.le_refl _⟩
theorem Done.le {r : Int} {D D' : DataW Unit} {s : List Int} {c : Int} {j : Nat} (h : Done r D s c j) (l : Le D D') : Done r D' s c j := fun k hk => by
  obtain ⟨c1, h1, h2⟩ := h k hk
  obtain ⟨c2, h3, h4⟩ := l _ _ h1
  exact ⟨c2, h3, by omega⟩
theorem at_put {D : DataW Unit} {kl : Lit} (hD : IsMap D) (hk : WideAt.IsKeyLit kl) (c : Int) : At (D.put kl (.lit (.int .i64 c))) kl c :=
  ⟨has_put_same hD hk _, fun z => atKey_put_same hD hk _ z⟩
theorem at_other {D : DataW Unit} {kl kl' : Lit} {d : DataW Unit} {c : Int} (hne : kl' ≠ kl) (h : At D kl' c) : At (D.put kl d) kl' c :=
  ⟨by rw [has_put_other hne]; exact h.1, fun z => by rw [atKey_put_other hne]; exact h.2 z⟩
theorem le_put {D : DataW Unit} {kl : Lit} (hD : IsMap D) (hk : WideAt.IsKeyLit kl) {c : Int} (h : ∀ o, At D kl o → c ≤ o) : Le D (D.put kl (.lit (.int .i64 c))) := fun kl' o ho => by
  by_cases e : kl' = kl
  · subst e
    exact ⟨c, at_put hD hk c, h o ho⟩
  · exact ⟨o, at_other e ho, Int.le_refl _⟩
theorem cand_put {V : Int} {rs : List Int} {L : Nat} {m : Int} {D : DataW Unit} (h : Cand V rs L m D) (hD : IsMap D) {t : List Int} (ht : RowS L t) {c : Int} (h0 : 0 ≤ c) (hm : c ≤ m) (hv : V ≤ c + vU rs t) : Cand V rs L m (D.put (kk t) (.lit (.int .i64 c))) := fun kl hk => by
  by_cases e : kl = kk t
  · subst e
    exact ⟨t, c, ht, rfl, at_put hD (kk_key ht) c, h0, hm, hv⟩
  · rw [has_put_other e] at hk
    obtain ⟨s, c', h1, h2, h3, h4, h5, h6⟩ := h kl hk
    exact ⟨s, c', h1, h2, at_other e h3, h4, h5, h6⟩
theorem Done.step {r : Int} {D : DataW Unit} {s : List Int} {c : Int} {j : Nat} (h : Done r D s c j) {c' : Int} (h1 : At D (kk (mvR s j r)) c') (h2 : c' ≤ c + dst (nth s j) r) : Done r D s c (j + 1) := fun k hk => by
  by_cases e : k < j
  · exact h k e
  · rw [show k = j by omega]; exact ⟨c', h1, h2⟩
/-- the next table holds the least -/
theorem best_next {V : Int} {r : Int} {rs : List Int} {L : Nat} {m : Int} {D D' : DataW Unit} (hL : 0 < L) (hL3 : L ≤ 3) (hb : Best V (r :: rs) L D) (hc : Cand V rs L m D') (hall : ∀ s c, RowS L s → At D (kk s) c → Done r D' s c L) (hr : 0 ≤ r ∧ r ≤ 99) : Best V rs L D' := by
  obtain ⟨s, c, h1, h2, h3⟩ := hb
  obtain ⟨k, hk, e⟩ := vU_some (r := r) (rs := rs) (a := s) (by have := h1.1; omega)
  obtain ⟨c', h4, h5⟩ := hall s c h1 h2 k (by have := h1.1; omega)
  obtain ⟨s', c'', g1, g2, g3, g4, g5, g6⟩ := hc _ h4.1
  have hrow := mv_row h1 hr hk
  have hv := mv_val (r := r) rs hk
  have e2 := h4.uniq g3
  refine ⟨mvR s k r, c', hrow, h4, ?_⟩
  have e3 := kk_inj hrow g1 hL3 g2
  rw [← e3] at g6
  omega
end Go.Proofs.Ytohjbabjkjcddaa
