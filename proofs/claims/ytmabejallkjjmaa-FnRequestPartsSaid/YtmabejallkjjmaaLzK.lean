/- PlanCaches, PlanFaults, LazyPlan: the program's. -/
import Derived.Test.YtmabejallkjjmaaLzJ
namespace Go.Proofs.Ytmabejallkjjmaa
open Go.RowKit

/-- what the program's lazy plan chooses -/
def lzch (X P : List Int) (t : Nat) (N : List Int) : Int := nth (N.filter fun y => !hasB (rnC X P (t + 1)) y) 0
theorem pb_lz {k : Int} {X P : List Int} {n : Nat} (hk : 1 ≤ k) (hP : rnB k X P n = true) (hX0 : ∀ s, s < n → 0 ≤ nth X s) : ∀ {t : Nat}, t ≤ n → pbC k (lzch X P) X t = lzC k X P t
  | 0, _ => rfl
  | t + 1, ht => by
    have ih := pb_lz hk hP hX0 (t := t) (by omega)
    have hok := lz_all hk hP hX0 (t := t) (by omega)
    have hst := lz_step hk hP (t := t) (by omega) hX0 hok
    have hC : lzC k X P (t + 1) = nextC (lzC k X P t) (nth X t) (lzP k X P t) := rfl
    rw [pbC, ih, hC, pbN]
    by_cases h1 : nth X t ∈ lzC k X P t
    · have ho : lzP k X P t = -1 := by unfold lzP lzO; rw [if_neg (fun hh => hh.1 h1)]
      rw [if_pos h1, ho, nextC, if_pos h1, if_neg (by omega)]
    · by_cases h2 : ((lzC k X P t).length : Int) = k
      · have ho : lzP k X P t = lzch X P t (lzC k X P t) := by unfold lzP lzO; rw [if_pos ⟨h1, h2⟩]; rfl
        have h0 : 0 ≤ lzP k X P t := by
          rcases hst.2.2.2 with e | hm
          · exfalso
            have h3 := (okS_iff.1 hst.2.1).2
            rw [e, nextC, if_neg h1, if_neg (by omega), putL_new h1] at h3
            omega
          · obtain ⟨s, hs, e⟩ := hok.mem _ hm
            have := hX0 s (by omega)
            omega
        rw [if_neg h1, if_pos h2, nextC, if_neg h1, if_pos h0, ho]
      · have ho : lzP k X P t = -1 := by unfold lzP lzO; rw [if_neg (fun hh => h2 hh.2)]
        rw [if_neg h1, if_neg h2, ho, nextC, if_neg h1, if_neg (by omega)]
theorem pb_lzP {k : Int} {X P : List Int} {n : Nat} (hk : 1 ≤ k) (hP : rnB k X P n = true) (hX0 : ∀ s, s < n → 0 ≤ nth X s) {t : Nat} (ht : t ≤ n) : pbP k (lzch X P) X t = lzP k X P t := by
  rw [pbP, pb_lz hk hP hX0 ht]
  rfl

theorem pl_len {n : Int} {X P : List Int} (h : plB n X P = true) : P.length = X.length := by
  simp only [plB, Bool.and_eq_true, decide_eq_true_eq] at h
  exact h.1
theorem rows_nil (w : World) (d : Option Addr) (c : Nat) : IsRows w (.slice d 0 c) [] := ⟨d, c, rfl, Nat.zero_le _, fun j hj => by simp at hj⟩

end Go.Proofs.Ytmabejallkjjmaa
