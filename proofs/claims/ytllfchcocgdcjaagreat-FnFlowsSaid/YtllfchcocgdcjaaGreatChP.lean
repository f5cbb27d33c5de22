/- Chain lists: plain words. -/
import Derived.Test.YtllfchcocgdcjaaGreatRisP
import Derived.Test.YtllfchcocgdcjaaGreatMbP
import Derived.Test.YtllfchcocgdcjaaGreatGrD
namespace Go.Proofs.YtllfchcocgdcjaaGreat
open Go.RowKit

theorem putL_in {x : Int} : ∀ {l : List Int}, SAsc l → x ∈ l → putL l x = l
  | [], _, h => by simp at h
  | y :: l, hs, h => by
    have h' := List.pairwise_cons.1 hs
    unfold putL
    rcases List.mem_cons.1 h with e | h
    · rw [if_neg (by omega), if_pos e]
    · have := h'.1 x h
      rw [if_neg (by omega), if_neg (by omega), putL_in h'.2 h]
theorem putL_new {x : Int} : ∀ {l : List Int}, x ∉ l → (putL l x).length = l.length + 1
  | [], _ => by simp [putL]
  | y :: l, h => by
    have h1 : x ≠ y := fun e => h (e ▸ List.mem_cons_self)
    have h2 : x ∉ l := fun e => h (List.mem_cons_of_mem _ e)
    unfold putL
    by_cases h3 : x < y
    · rw [if_pos h3]; simp
    · rw [if_neg h3, if_neg h1]
      simp only [List.length_cons, putL_new h2]
theorem difL_all {X : List Int} : ∀ {k : Nat}, k ≤ X.length → (∀ i, i < k → nth X i ∉ X.take i) → (difL (X.take k)).length = k
  | 0, _, _ => by simp [difL]
  | k + 1, hk, h => by
    rw [take_succ_nth hk, difL_snoc, putL_new (fun hm => h k (by omega) (mem_difL.1 hm)), difL_all (by omega) fun i hi => h i (by omega)]
theorem difL_less {X : List Int} {i : Nat} (hi : i < X.length) (h : nth X i ∈ X.take i) : (difL X).length < X.length := by
  have key : ∀ d : Nat, i + 1 + d ≤ X.length → (difL (X.take (i + 1 + d))).length ≤ i + d := by
    intro d
    induction d with
    | zero =>
      intro _
      rw [Nat.add_zero, take_succ_nth hi, difL_snoc, putL_in (difL_sasc _) (mem_difL.2 h)]
      have := difL_len (X.take i)
      rw [List.length_take] at this
      omega
    | succ d ih =>
      intro hd
      have h1 := ih (by omega)
      rw [← Nat.add_assoc, take_succ_nth (by omega), difL_snoc]
      have := putL_len (x := nth X (i + 1 + d)) (l := difL (X.take (i + 1 + d)))
      omega
  have h2 := key (X.length - (i + 1)) (by omega)
  rw [show i + 1 + (X.length - (i + 1)) = X.length by omega, List.take_length] at h2
  omega
theorem difL_full {X : List Int} : (difL X).length = X.length ↔ ∀ i, i < X.length → nth X i ∉ X.take i := by
  constructor
  · intro h i hi hm
    have := difL_less hi hm
    omega
  · intro h
    have := difL_all (Nat.le_refl _) h
    rwa [List.take_length] at this

/-- whether numbers are a chain list for n servers -/
def chnB (n : Nat) (X b : List Int) : Bool := decide (b.length = X.length ∧ (difL b).length = b.length ∧ ∀ i : Nat, i < b.length → 0 ≤ nth b i ∧ nth b i < (n : Int) + i)
theorem chn_iff {n : Nat} {X b : List Int} : chnB n X b = true ↔ b.length = X.length ∧ (difL b).length = b.length ∧ ∀ i : Nat, i < b.length → 0 ≤ nth b i ∧ nth b i < (n : Int) + i := by
  unfold chnB
  rw [decide_eq_true_iff]
theorem chn_not {n : Nat} {X b : List Int} (h : ¬ (b.length = X.length ∧ (difL b).length = b.length ∧ ∀ i : Nat, i < b.length → 0 ≤ nth b i ∧ nth b i < (n : Int) + i)) : chnB n X b = false := by
  cases hb : chnB n X b with
  | false => rfl
  | true => exact absurd (chn_iff.1 hb) h
end Go.Proofs.YtllfchcocgdcjaaGreat
