/- The different numbers of a list in ascending order, in plain words. -/
import Derived.Test.YtllfchcocgdcjaaGreatGrA
import Derived.Lib.SlicesCompact
namespace Go.Proofs.YtllfchcocgdcjaaGreat
open Go.RowKit

/-- a number put to its place, once -/
def putL : List Int → Int → List Int
  | [], x => [x]
  | y :: l, x => if x < y then x :: y :: l else if x = y then y :: l else y :: putL l x
/-- the different numbers of a list in ascending order -/
def difL (X : List Int) : List Int := X.foldl putL []
def SAsc (l : List Int) : Prop := l.Pairwise (· < ·)
theorem mem_putL {x y : Int} : ∀ {l : List Int}, y ∈ putL l x ↔ y = x ∨ y ∈ l
  | [] => by simp [putL]
  | z :: l => by
    unfold putL
    by_cases h1 : x < z
    · rw [if_pos h1]; simp
    · rw [if_neg h1]
      by_cases h2 : x = z
      · rw [if_pos h2]; subst h2; simp
      · rw [if_neg h2, List.mem_cons, mem_putL, List.mem_cons]
        constructor
        · rintro (h | h | h)
          · exact .inr (.inl h)
          · exact .inl h
          · exact .inr (.inr h)
        · rintro (h | h | h)
          · exact .inr (.inl h)
          · exact .inl h
          · exact .inr (.inr h)
theorem putL_sasc {x : Int} : ∀ {l : List Int}, SAsc l → SAsc (putL l x)
  | [], _ => by simp [putL, SAsc]
  | z :: l, h => by
    have h' := List.pairwise_cons.1 h
    unfold putL
    by_cases h1 : x < z
    · rw [if_pos h1]
      refine List.pairwise_cons.2 ⟨fun y hy => ?_, h⟩
      rcases List.mem_cons.1 hy with e | hy
      · omega
      · have := h'.1 y hy; omega
    · rw [if_neg h1]
      by_cases h2 : x = z
      · rw [if_pos h2]; exact h
      · rw [if_neg h2]
        refine List.pairwise_cons.2 ⟨fun y hy => ?_, putL_sasc h'.2⟩
        rcases mem_putL.1 hy with e | hy
        · omega
        · exact h'.1 y hy
theorem difL_snoc (X : List Int) (x : Int) : difL (X ++ [x]) = putL (difL X) x := by simp [difL]
theorem difL_spec : ∀ (n : Nat) (X : List Int), X.length = n → SAsc (difL X) ∧ ∀ y, y ∈ difL X ↔ y ∈ X
  | 0, X, h => by
    have : X = [] := List.eq_nil_of_length_eq_zero h
    subst this
    simp [difL, SAsc]
  | n + 1, X, h => by
    have hne : X ≠ [] := fun e => by rw [e] at h; simp at h
    have e := List.dropLast_concat_getLast hne
    have ih := difL_spec n X.dropLast (by simp [h])
    rw [← e, difL_snoc]
    refine ⟨putL_sasc ih.1, fun y => ?_⟩
    rw [mem_putL, ih.2]
    simp only [List.mem_append, List.mem_singleton]
    exact Or.comm
theorem difL_sasc (X : List Int) : SAsc (difL X) := (difL_spec _ X rfl).1
theorem mem_difL {X : List Int} {y : Int} : y ∈ difL X ↔ y ∈ X := (difL_spec _ X rfl).2 y
theorem putL_len {x : Int} : ∀ {l : List Int}, (putL l x).length ≤ l.length + 1
  | [] => by simp [putL]
  | z :: l => by
    unfold putL
    split
    · simp
    · split
      · simp
      · have := putL_len (x := x) (l := l)
        simp only [List.length_cons]; omega
theorem difL_len (X : List Int) : (difL X).length ≤ X.length := by
  have key : ∀ (Y A : List Int), (Y.foldl putL A).length ≤ A.length + Y.length := by
    intro Y
    induction Y with
    | nil => intro A; simp
    | cons y Y ih =>
      intro A
      have h1 := ih (putL A y)
      have h2 := putL_len (x := y) (l := A)
      rw [List.foldl_cons]
      simp only [List.length_cons]
      omega
  simpa [difL] using key X []
theorem sasc_uniq : ∀ {a b : List Int}, SAsc a → SAsc b → (∀ y, y ∈ a ↔ y ∈ b) → a = b
  | [], [], _, _, _ => rfl
  | [], y :: b, _, _, h => by have := (h y).2 (by simp); simp at this
  | x :: a, [], _, _, h => by have := (h x).1 (by simp); simp at this
  | x :: a, y :: b, h1, h2, h => by
    have h1' := List.pairwise_cons.1 h1
    have h2' := List.pairwise_cons.1 h2
    have hx := (h x).1 (by simp)
    have hy := (h y).2 (by simp)
    have e : x = y := by
      rcases List.mem_cons.1 hx with e | hx
      · exact e
      · rcases List.mem_cons.1 hy with e | hy
        · exact e.symm
        · have := h1'.1 y hy
          have := h2'.1 x hx
          omega
    subst e
    rw [sasc_uniq h1'.2 h2'.2 fun z => ?_]
    constructor
    · intro hz
      rcases List.mem_cons.1 ((h z).1 (List.mem_cons_of_mem _ hz)) with e | hz'
      · subst e; have := h1'.1 z hz; omega
      · exact hz'
    · intro hz
      rcases List.mem_cons.1 ((h z).2 (List.mem_cons_of_mem _ hz)) with e | hz'
      · subst e; have := h2'.1 z hz; omega
      · exact hz'
theorem sasc_dif {X : List Int} (h : SAsc X) : difL X = X := sasc_uniq (difL_sasc X) h fun _ => mem_difL
theorem sasc_iff {X : List Int} : SAsc X ↔ difL X = X := ⟨sasc_dif, fun h => h ▸ difL_sasc X⟩
/-- the loop of the reference -/
theorem putL_hit {x : Int} : ∀ {l : List Int} {k : Nat}, k < l.length → (∀ j, j < k → nth l j < x) → nth l k = x → putL l x = l
  | y :: l, 0, _, _, h => by
    have : y = x := by simpa [nth] using h
    subst this
    unfold putL
    rw [if_neg (by omega), if_pos rfl]
  | y :: l, k + 1, hk, h1, h2 => by
    have h0 : y < x := by simpa [nth] using h1 0 (by omega)
    unfold putL
    rw [if_neg (by omega), if_neg (by omega), putL_hit (k := k) (by simpa using hk) (fun j hj => by simpa [nth] using h1 (j + 1) (by omega)) (by simpa [nth] using h2)]
theorem putL_ins {x : Int} : ∀ {l : List Int} {k : Nat}, k ≤ l.length → (∀ j, j < k → nth l j < x) → (k < l.length → x < nth l k) → putL l x = l.take k ++ [x] ++ l.drop k
  | [], k, hk, _, _ => by simp [putL]
  | y :: l, 0, _, _, h => by
    have : x < y := by simpa [nth] using h (by simp)
    unfold putL
    rw [if_pos this]
    rfl
  | y :: l, k + 1, hk, h1, h2 => by
    have h0 : y < x := by simpa [nth] using h1 0 (by omega)
    unfold putL
    rw [if_neg (by omega), if_neg (by omega), putL_ins (k := k) (by simpa using hk) (fun j hj => by simpa [nth] using h1 (j + 1) (by omega)) (fun h => by simpa [nth] using h2 (by simpa using h))]
    rfl
/-- what the library's Compact makes of a sorted list -/
theorem compact_sorted {Y X : List Int} (hs : Y.Pairwise (· ≤ ·)) (hm : ∀ y, y ∈ Y ↔ y ∈ X) : Go.Lib.compactUpTo Y.toArray Y.length = difL X := by
  have hget : ∀ j, j < Y.length → Y.toArray[j]! = nth Y j := fun j hj => by simp [nth, hj]
  have hle : ∀ i j, i < j → j < Y.length → nth Y i ≤ nth Y j := fun i j hij hj => by
    have := List.pairwise_iff_getElem.1 hs i j (by omega) hj hij
    have hi : i < Y.length := by omega
    simpa [nth, hj, hi] using this
  have key : ∀ m : Nat, m ≤ Y.length → SAsc (Go.Lib.compactUpTo Y.toArray m) ∧ (∀ y, y ∈ Go.Lib.compactUpTo Y.toArray m ↔ ∃ j, j < m ∧ nth Y j = y) := by
    intro m
    induction m with
    | zero => intro _; simp [Go.Lib.compactUpTo, SAsc]
    | succ m ih =>
      intro hm
      obtain ⟨h1, h2⟩ := ih (by omega)
      rw [Go.Lib.compactUpTo_succ, hget m (by omega)]
      cases hk : Go.Lib.keeps Y.toArray m with
      | true =>
        rw [if_pos rfl]
        have hk' : m = 0 ∨ nth Y m ≠ nth Y (m - 1) := by
          rw [← hget m (by omega), ← hget (m - 1) (by omega)]
          simpa [Go.Lib.keeps] using hk
        refine ⟨List.pairwise_append.2 ⟨h1, by simp, fun a ha b hb => ?_⟩, fun y => ?_⟩
        · obtain ⟨j, hj, rfl⟩ := (h2 a).1 ha
          rw [List.mem_singleton.1 hb]
          have h3 : nth Y (m - 1) ≤ nth Y m := hle _ _ (by omega) (by omega)
          have h4 : nth Y j ≤ nth Y (m - 1) := by
            by_cases e : j = m - 1
            · rw [e]; omega
            · exact hle _ _ (by omega) (by omega)
          omega
        · rw [List.mem_append, h2, List.mem_singleton]
          constructor
          · rintro (⟨j, hj, e⟩ | e)
            · exact ⟨j, by omega, e⟩
            · exact ⟨m, by omega, e.symm⟩
          · rintro ⟨j, hj, e⟩
            by_cases c : j = m
            · subst c; exact .inr e.symm
            · exact .inl ⟨j, by omega, e⟩
      | false =>
        have hk' : m ≠ 0 ∧ nth Y m = nth Y (m - 1) := by
          rw [← hget m (by omega), ← hget (m - 1) (by omega)]
          simpa [Go.Lib.keeps] using hk
        simp only [Bool.false_eq_true, if_false, List.append_nil]
        refine ⟨h1, fun y => ?_⟩
        rw [h2]
        constructor
        · rintro ⟨j, hj, e⟩; exact ⟨j, by omega, e⟩
        · rintro ⟨j, hj, e⟩
          by_cases c : j = m
          · subst c; exact ⟨j - 1, by omega, by rw [← hk'.2, e]⟩
          · exact ⟨j, by omega, e⟩
  obtain ⟨h1, h2⟩ := key Y.length (Nat.le_refl _)
  refine sasc_uniq h1 (difL_sasc X) fun y => ?_
  rw [h2, mem_difL, ← hm, mem_iff_nth]
end Go.Proofs.YtllfchcocgdcjaaGreat
