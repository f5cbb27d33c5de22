/- Plans and lazy plans, in plain words. -/
import Derived.Test.YtmabejallkjjmaaPgD
import Derived.Test.YtmabejallkjjmaaChP
import Derived.Test.YtmabejallkjjmaaPagT
namespace Go.Proofs.Ytmabejallkjjmaa
open Go.RowKit

theorem outL_sasc {L : List Int} {x : Int} (h : SAsc L) : SAsc (outL L x) := h.sublist List.filter_sublist
theorem outL_drop {L : List Int} {x : Int} (h : SAsc L) (hx : x ∈ L) : (outL L x).length + 1 = L.length := by
  induction L with
  | nil => simp at hx
  | cons y L ih =>
    have h' := List.pairwise_cons.1 h
    rcases List.mem_cons.1 hx with e | hx
    · subst e
      have : outL (x :: L) x = L := by
        unfold outL
        rw [List.filter_cons, if_neg (by simp)]
        exact List.filter_eq_self.2 fun z hz => by
          have := h'.1 z hz
          simp; omega
      rw [this]; rfl
    · have hne : y ≠ x := by have := h'.1 x hx; omega
      have := ih h'.2 hx
      unfold outL at this ⊢
      rw [List.filter_cons, if_pos (by simpa using hne)]
      simp only [List.length_cons]
      omega
/-- the next pages in the cache -/
def nextC (N : List Int) (r o : Int) : List Int := if r ∈ N then (if 0 ≤ o then outL N o else N) else putL (if 0 ≤ o then outL N o else N) r
/-- whether a place of a plan is possible -/
def okS (k : Int) (N : List Int) (r o : Int) : Bool := decide (¬ (0 ≤ o ∧ (r ∈ N ∨ o ∉ N)) ∧ ((nextC N r o).length : Int) ≤ k)
/-- the pages behind the first t places of a plan -/
def rnC (X P : List Int) : Nat → List Int
  | 0 => []
  | t + 1 => nextC (rnC X P t) (nth X t) (nth P t)
def rnB (k : Int) (X P : List Int) (t : Nat) : Bool := decide (∀ s, s < t → okS k (rnC X P s) (nth X s) (nth P s) = true)
/-- the faults of the first t places -/
def rnF (X P : List Int) (t : Nat) : Int := sgTo (fun s => if nth X s ∈ rnC X P s then 0 else 1) t
/-- the caches behind the first t places -/
def rnL (X P : List Int) (t : Nat) : List (List Int) := (List.range t).map fun s => rnC X P (s + 1)
theorem rnL_len (X P : List Int) (t : Nat) : (rnL X P t).length = t := by simp [rnL]
theorem rnL_succ (X P : List Int) (t : Nat) : rnL X P (t + 1) = rnL X P t ++ [rnC X P (t + 1)] := by simp [rnL, List.range_succ]
theorem rnL_at {X P : List Int} {t i : Nat} (h : i < t) : row (rnL X P t) i = rnC X P (i + 1) := by simp [rnL, row, h]
theorem rnB_succ {k : Int} {X P : List Int} {t : Nat} (h : rnB k X P t = true) (h2 : okS k (rnC X P t) (nth X t) (nth P t) = true) : rnB k X P (t + 1) = true := by
  unfold rnB at h ⊢
  rw [decide_eq_true_iff] at h ⊢
  intro s hs
  by_cases e : s = t
  · subst e; exact h2
  · exact h s (by omega)
theorem rnB_not {k : Int} {X P : List Int} {t n : Nat} (ht : t < n) (h2 : okS k (rnC X P t) (nth X t) (nth P t) = false) : rnB k X P n = false := by
  unfold rnB
  rw [decide_eq_false_iff_not]
  intro h
  rw [h t ht] at h2
  cases h2
theorem rnB_at {k : Int} {X P : List Int} {n t : Nat} (h : rnB k X P n = true) (ht : t < n) : okS k (rnC X P t) (nth X t) (nth P t) = true := by
  unfold rnB at h
  rw [decide_eq_true_iff] at h
  exact h t ht
theorem rnF_bd (X P : List Int) (t : Nat) : 0 ≤ rnF X P t ∧ rnF X P t ≤ t := by
  have := sgTo_bd (f := fun s => if nth X s ∈ rnC X P s then 0 else 1) (a := 0) (b := 1) (n := t) fun s _ => by
    show 0 ≤ (if nth X s ∈ rnC X P s then (0 : Int) else 1) ∧ (if nth X s ∈ rnC X P s then (0 : Int) else 1) ≤ 1
    split <;> omega
  unfold rnF; omega
theorem rnC_sasc (X P : List Int) : ∀ t, SAsc (rnC X P t)
  | 0 => by simp [rnC, SAsc]
  | t + 1 => by
    have ih := rnC_sasc X P t
    unfold rnC nextC
    by_cases h : nth X t ∈ rnC X P t
    · rw [if_pos h]
      by_cases h2 : 0 ≤ nth P t
      · rw [if_pos h2]; exact outL_sasc ih
      · rw [if_neg h2]; exact ih
    · rw [if_neg h]
      by_cases h2 : 0 ≤ nth P t
      · rw [if_pos h2]; exact putL_sasc (outL_sasc ih)
      · rw [if_neg h2]; exact putL_sasc ih
theorem rnC_mem {X P : List Int} : ∀ {t : Nat} {y : Int}, t ≤ X.length → y ∈ rnC X P t → ∃ s, s < t ∧ nth X s = y
  | 0, y, _, h => by simp [rnC] at h
  | t + 1, y, ht, h => by
    have key : y ∈ rnC X P t ∨ y = nth X t := by
      unfold rnC nextC at h
      by_cases h1 : nth X t ∈ rnC X P t
      · rw [if_pos h1] at h
        by_cases h2 : 0 ≤ nth P t
        · rw [if_pos h2] at h; exact .inl (mem_outL.1 h).1
        · rw [if_neg h2] at h; exact .inl h
      · rw [if_neg h1] at h
        rcases mem_putL.1 h with h | h
        · exact .inr h
        · by_cases h2 : 0 ≤ nth P t
          · rw [if_pos h2] at h; exact .inl (mem_outL.1 h).1
          · rw [if_neg h2] at h; exact .inl h
    rcases key with h | h
    · obtain ⟨s, h1, h2⟩ := rnC_mem (by omega) h
      exact ⟨s, by omega, h2⟩
    · exact ⟨t, by omega, h.symm⟩
theorem rnC_len (X P : List Int) : ∀ t, (rnC X P t).length ≤ t
  | 0 => by simp [rnC]
  | t + 1 => by
    have ih := rnC_len X P t
    unfold rnC nextC
    have h1 := outL_len (rnC X P t) (nth P t)
    have h2 := putL_len (x := nth X t) (l := outL (rnC X P t) (nth P t))
    have h3 := putL_len (x := nth X t) (l := rnC X P t)
    split <;> split <;> omega
theorem rnC_le {k : Int} {X P : List Int} (hk : 0 ≤ k) {n : Nat} (h : rnB k X P n = true) : ∀ {t : Nat}, t ≤ n → ((rnC X P t).length : Int) ≤ k
  | 0, _ => by simpa [rnC] using hk
  | t + 1, ht => by
    have := rnB_at h (t := t) (by omega)
    unfold okS at this
    rw [decide_eq_true_iff] at this
    exact this.2
/-- whether a list is a plan for a sequence -/
def plB (n : Int) (X P : List Int) : Bool := decide (P.length = X.length) && decide (∀ p ∈ P, inB p (-1) (n - 1) = true)
/-- whether a plan is possible -/
def pcB (k n : Int) (X P : List Int) : Bool := pagB k n X && (plB n X P && rnB k X P X.length)
def pcC (k n : Int) (X P : List Int) : List (List Int) := if pcB k n X P then rnL X P X.length else []
def pcF (k n : Int) (X P : List Int) : Int := if pcB k n X P then rnF X P X.length else 0
/-- what a lazy plan does at a place at which the other plan's cache becomes T -/
def lzO (k : Int) (N : List Int) (r : Int) (T : List Int) : Int := if r ∉ N ∧ (N.length : Int) = k then nth (N.filter fun y => !hasB T y) 0 else -1
def lzC (k : Int) (X P : List Int) : Nat → List Int
  | 0 => []
  | t + 1 => nextC (lzC k X P t) (nth X t) (lzO k (lzC k X P t) (nth X t) (rnC X P (t + 1)))
def lzP (k : Int) (X P : List Int) (t : Nat) : Int := lzO k (lzC k X P t) (nth X t) (rnC X P (t + 1))
/-- the lazy plan -/
def lzL (k : Int) (X P : List Int) (t : Nat) : List Int := (List.range t).map (lzP k X P)
def lzR (k n : Int) (X P : List Int) : List Int := if pcB k n X P then lzL k X P X.length else []
theorem lzL_len (k : Int) (X P : List Int) (t : Nat) : (lzL k X P t).length = t := by simp [lzL]
theorem lzL_succ (k : Int) (X P : List Int) (t : Nat) : lzL k X P (t + 1) = lzL k X P t ++ [lzP k X P t] := by simp [lzL, List.range_succ]
theorem lzL_at {k : Int} {X P : List Int} {t i : Nat} (h : i < t) : nth (lzL k X P t) i = lzP k X P i := by simp [lzL, nth, h]
theorem lzC_rn {k : Int} {X P : List Int} {n : Nat} : ∀ {t : Nat}, t ≤ n → rnC X (lzL k X P n) t = lzC k X P t
  | 0, _ => rfl
  | t + 1, h => by
    rw [rnC, lzC, lzC_rn (by omega), lzL_at (by omega)]
    rfl
theorem okS_iff {k : Int} {N : List Int} {r o : Int} : okS k N r o = true ↔ ¬ (0 ≤ o ∧ (r ∈ N ∨ o ∉ N)) ∧ ((nextC N r o).length : Int) ≤ k := by
  unfold okS
  rw [decide_eq_true_iff]
theorem nextC_has (N : List Int) (r o : Int) (h : ¬ (0 ≤ o ∧ (r ∈ N ∨ o ∉ N))) : r ∈ nextC N r o := by
  unfold nextC
  by_cases h1 : r ∈ N
  · rw [if_pos h1, if_neg (fun h2 => h ⟨h2, .inl h1⟩)]
    exact h1
  · rw [if_neg h1]
    exact mem_putL.2 (.inl rfl)
theorem nextC_sub {N : List Int} {r o y : Int} (h : y ∈ nextC N r o) : y = r ∨ y ∈ N := by
  unfold nextC at h
  by_cases h1 : r ∈ N
  · rw [if_pos h1] at h
    by_cases h2 : 0 ≤ o
    · rw [if_pos h2] at h; exact .inr (mem_outL.1 h).1
    · rw [if_neg h2] at h; exact .inr h
  · rw [if_neg h1] at h
    rcases mem_putL.1 h with h | h
    · exact .inl h
    · by_cases h2 : 0 ≤ o
      · rw [if_pos h2] at h; exact .inr (mem_outL.1 h).1
      · rw [if_neg h2] at h; exact .inr h
/-- a full cache has a page that another one has not, if that has one more page and is not larger -/
theorem gone_some {N T : List Int} {r : Int} (hN : SAsc N) (_hT : SAsc T) (hr : r ∉ N) (hrT : r ∈ T) (hl : T.length ≤ N.length) : 0 < (N.filter fun y => !hasB T y).length := by
  by_cases h : 0 < (N.filter fun y => !hasB T y).length
  · exact h
  · exfalso
    have h0 : N.filter (fun y => !hasB T y) = [] := List.eq_nil_of_length_eq_zero (by omega)
    have hsub : ∀ y ∈ N, y ∈ T := fun y hy => by
      have := List.filter_eq_nil_iff.1 h0 y hy
      simpa [hasB] using this
    have h1 : (putL N r).length ≤ T.length := by
      have hs := putL_sasc (x := r) hN
      have hnd : (putL N r).Nodup := hs.imp (fun h => by omega)
      exact hnd.length_le_of_subset fun y hy => by
        rcases mem_putL.1 hy with e | hy
        · rw [e]; exact hrT
        · exact hsub y hy
    rw [putL_new hr] at h1
    omega
/-- the lazy plan goes on -/
structure LzOk (k : Int) (X P : List Int) (t : Nat) : Prop where
  asc : SAsc (lzC k X P t)
  sub : ∀ y ∈ rnC X P t, y ∈ lzC k X P t
  le : ((lzC k X P t).length : Int) ≤ k
  mem : ∀ y ∈ lzC k X P t, ∃ s, s < t ∧ nth X s = y
theorem lz_step {k : Int} {X P : List Int} {n : Nat} (hk : 1 ≤ k) (hP : rnB k X P n = true) {t : Nat} (ht : t < n) (hX0 : ∀ s, s < n → 0 ≤ nth X s) (h : LzOk k X P t) :
    LzOk k X P (t + 1) ∧ okS k (lzC k X P t) (nth X t) (lzP k X P t) = true ∧ (nth X t ∈ rnC X P t → nth X t ∈ lzC k X P t) ∧ (lzP k X P t = -1 ∨ lzP k X P t ∈ lzC k X P t) := by
  have hok := rnB_at hP ht
  have hok2 := (okS_iff.1 hok).1
  have hrT : nth X t ∈ rnC X P (t + 1) := nextC_has _ _ _ hok2
  have hTs := rnC_sasc X P (t + 1)
  have hTl := rnC_le (by omega) hP (t := t + 1) (by omega)
  have hTsub : ∀ y ∈ rnC X P (t + 1), y = nth X t ∨ y ∈ lzC k X P t := fun y hy => by
    rcases nextC_sub hy with e | hy
    · exact .inl e
    · exact .inr (h.sub y hy)
  have hlC : lzC k X P (t + 1) = nextC (lzC k X P t) (nth X t) (lzP k X P t) := rfl
  have hlast : (nth X t ∈ rnC X P t → nth X t ∈ lzC k X P t) := h.sub _
  by_cases hin : nth X t ∈ lzC k X P t
  · have ho : lzP k X P t = -1 := by unfold lzP lzO; rw [if_neg (fun hh => hh.1 hin)]
    have hn : nextC (lzC k X P t) (nth X t) (lzP k X P t) = lzC k X P t := by
      rw [ho, nextC, if_pos hin, if_neg (by omega)]
    refine ⟨⟨?_, ?_, ?_, ?_⟩, ?_, hlast, .inl ho⟩
    · rw [hlC, hn]; exact h.asc
    · rw [hlC, hn]
      intro y hy
      rcases hTsub y hy with e | hy
      · rw [e]; exact hin
      · exact hy
    · rw [hlC, hn]; exact h.le
    · rw [hlC, hn]
      intro y hy
      obtain ⟨s, h1, h2⟩ := h.mem y hy
      exact ⟨s, by omega, h2⟩
    · refine okS_iff.2 ⟨fun hh => by omega, ?_⟩
      rw [hn]; exact h.le
  · by_cases hfull : ((lzC k X P t).length : Int) = k
    · have hgs := gone_some h.asc hTs hin hrT (by omega)
      obtain ⟨G, hG⟩ : ∃ G, G = (lzC k X P t).filter (fun y => !hasB (rnC X P (t + 1)) y) := ⟨_, rfl⟩
      have ho : lzP k X P t = nth G 0 := by unfold lzP lzO; rw [if_pos ⟨hin, hfull⟩, hG]
      rw [← hG] at hgs
      have hm : nth G 0 ∈ G := nth_mem hgs
      have hm2 : nth G 0 ∈ lzC k X P t ∧ nth G 0 ∉ rnC X P (t + 1) := by
        rw [hG] at hm ⊢
        have := List.mem_filter.1 hm
        refine ⟨this.1, ?_⟩
        have h2 := this.2
        simp only [hasB, Bool.not_eq_true'] at h2
        exact of_decide_eq_false h2
      have h0 : 0 ≤ nth G 0 := by
        obtain ⟨s, h1, h2⟩ := h.mem _ hm2.1
        have := hX0 s (by omega)
        omega
      have hn : nextC (lzC k X P t) (nth X t) (lzP k X P t) = putL (outL (lzC k X P t) (nth G 0)) (nth X t) := by
        rw [ho, nextC, if_neg hin, if_pos h0]
      have hnew : nth X t ∉ outL (lzC k X P t) (nth G 0) := fun hh => hin (mem_outL.1 hh).1
      have hlen := putL_new hnew
      have hdr := outL_drop h.asc hm2.1
      refine ⟨⟨?_, ?_, ?_, ?_⟩, ?_, hlast, .inr (by rw [ho]; exact hm2.1)⟩
      · rw [hlC, hn]; exact putL_sasc (outL_sasc h.asc)
      · rw [hlC, hn]
        intro y hy
        rcases hTsub y hy with e | hy2
        · exact mem_putL.2 (.inl e)
        · exact mem_putL.2 (.inr (mem_outL.2 ⟨hy2, fun e => hm2.2 (e ▸ hy)⟩))
      · rw [hlC, hn]; omega
      · rw [hlC, hn]
        intro y hy
        rcases mem_putL.1 hy with e | hy
        · exact ⟨t, by omega, e.symm⟩
        · obtain ⟨s, h1, h2⟩ := h.mem y (mem_outL.1 hy).1
          exact ⟨s, by omega, h2⟩
      · refine okS_iff.2 ⟨fun hh => ?_, ?_⟩
        · rcases hh.2 with h1 | h1
          · exact hin h1
          · rw [ho] at h1; exact h1 hm2.1
        · rw [hn]; omega
    · have ho : lzP k X P t = -1 := by unfold lzP lzO; rw [if_neg (fun hh => hfull hh.2)]
      have hn : nextC (lzC k X P t) (nth X t) (lzP k X P t) = putL (lzC k X P t) (nth X t) := by
        rw [ho, nextC, if_neg hin, if_neg (by omega)]
      have hlen := putL_new hin
      have hle := h.le
      refine ⟨⟨?_, ?_, ?_, ?_⟩, ?_, hlast, .inl ho⟩
      · rw [hlC, hn]; exact putL_sasc h.asc
      · rw [hlC, hn]
        intro y hy
        rcases hTsub y hy with e | hy2
        · exact mem_putL.2 (.inl e)
        · exact mem_putL.2 (.inr hy2)
      · rw [hlC, hn]; omega
      · rw [hlC, hn]
        intro y hy
        rcases mem_putL.1 hy with e | hy
        · exact ⟨t, by omega, e.symm⟩
        · obtain ⟨s, h1, h2⟩ := h.mem y hy
          exact ⟨s, by omega, h2⟩
      · refine okS_iff.2 ⟨fun hh => by omega, ?_⟩
        rw [hn]; omega
theorem lz_all {k : Int} {X P : List Int} {n : Nat} (hk : 1 ≤ k) (hP : rnB k X P n = true) (hX0 : ∀ s, s < n → 0 ≤ nth X s) : ∀ {t : Nat}, t ≤ n → LzOk k X P t
  | 0, _ => ⟨by simp [lzC, SAsc], by simp [rnC], by simp [lzC]; omega, by simp [lzC]⟩
  | t + 1, ht => (lz_step hk hP (t := t) (by omega) hX0 (lz_all hk hP hX0 (t := t) (by omega))).1
/-- what the law asks of a lazy plan -/
theorem lz_law {k n : Int} {X P : List Int} (h : pcB k n X P = true) :
    pcB k n X (lzL k X P X.length) = true ∧ rnF X (lzL k X P X.length) X.length ≤ rnF X P X.length ∧
    ∀ i, i < X.length → nth X i ∈ rnC X P (i + 1) ∧ nth X i ∈ rnC X (lzL k X P X.length) (i + 1) ∧ ((rnC X (lzL k X P X.length) (i + 1)).length : Int) ≤ k ∧ ∀ y ∈ rnC X P (i + 1), y ∈ rnC X (lzL k X P X.length) (i + 1) := by
  simp only [pcB, Bool.and_eq_true] at h
  obtain ⟨h1, h2, h3⟩ := h
  obtain ⟨hk, hn, hl, hp⟩ := pagB_in h1
  have hX0 : ∀ s, s < X.length → 0 ≤ nth X s ∧ nth X s < n := fun s hs => by
    have := hp s hs
    omega
  have hall : ∀ t, t ≤ X.length → LzOk k X P t := fun t ht => lz_all hk.1 h3 (fun s hs => (hX0 s hs).1) ht
  have hst := fun t (ht : t < X.length) => lz_step hk.1 h3 ht (fun s hs => (hX0 s hs).1) (hall t (by omega))
  have hB : rnB k X (lzL k X P X.length) X.length = true := by
    unfold rnB
    rw [decide_eq_true_iff]
    intro s hs
    rw [lzC_rn (by omega), lzL_at hs]
    exact (hst s hs).2.1
  refine ⟨?_, ?_, fun i hi => ?_⟩
  · simp only [pcB, Bool.and_eq_true]
    refine ⟨h1, ?_, hB⟩
    simp only [plB, Bool.and_eq_true, decide_eq_true_eq]
    refine ⟨lzL_len _ _ _ _, fun p hp' => ?_⟩
    obtain ⟨t, ht, rfl⟩ := List.mem_map.1 hp'
    have ht' := List.mem_range.1 ht
    apply inB_true.2
    rcases (hst t ht').2.2.2 with e | hm
    · rw [e]; omega
    · obtain ⟨s, hs1, hs2⟩ := (hall t (by omega)).mem _ hm
      have := hX0 s (by omega)
      omega
  · have key : ∀ t, t ≤ X.length → rnF X (lzL k X P X.length) t ≤ rnF X P t := by
      intro t
      induction t with
      | zero => intro _; simp [rnF, sgTo]
      | succ t ih =>
        intro ht
        have hi := ih (by omega)
        have h5 := (hst t (by omega)).2.2.1
        simp only [rnF, sgTo] at hi ⊢
        rw [lzC_rn (by omega)]
        by_cases h6 : nth X t ∈ rnC X P t
        · rw [if_pos h6, if_pos (h5 h6)]; omega
        · rw [if_neg h6]; split <;> omega
    exact key _ (Nat.le_refl _)
  · have h5 := hall (i + 1) (by omega)
    rw [lzC_rn (by omega)]
    have h6 := (okS_iff.1 (rnB_at h3 hi)).1
    have h7 : nth X i ∈ rnC X P (i + 1) := nextC_has _ _ _ h6
    exact ⟨h7, h5.sub _ h7, h5.le, h5.sub⟩
end Go.Proofs.Ytmabejallkjjmaa
