/- The reference's rounds of rising prices in plain words. -/
import Derived.Test.YtllfchcocgdcjaaGreatRcP
namespace Go.Proofs.YtllfchcocgdcjaaGreat
open Go.RowKit

/-- a round: rents r0 at its begin; rows below i are done, row i as far as column l (if inn) -/
structure Rz (k : Nat) (c : Nat → Nat → Int) (n m : Nat) (f : Nat → Nat) (r0 r pr : Nat → Int) (ch : Bool) (i l : Nat) (inn : Bool) : Prop where
  lo : ∀ l, l < m → 0 ≤ r l
  lp : ∀ i, i < n → 0 ≤ pr i
  up : ∀ p' q', Cert (Al k) c n m f p' q' → (∀ i, i < n → pr i ≤ p' i) ∧ ∀ l, l < m → r l ≤ q' l
  le : sgTo r0 m ≤ sgTo r m
  lt : ch = true → sgTo r0 m < sgTo r m
  fix : ch = false → (∀ i', i' < i → pr i' = r (f i') + c i' (f i') ∧ ∀ l', l' < m → alB k i' l' = true → pr i' - c i' l' ≤ r l') ∧ (inn = true → pr i = r (f i) + c i (f i) ∧ ∀ l', l' < l → alB k i l' = true → pr i - c i l' ≤ r l')
section
variable {k n m : Nat} {c : Nat → Nat → Int} {f : Nat → Nat} {r0 r pr p q : Nat → Int} {ch : Bool} {i l : Nat}
theorem Rz.begin (h1 : ∀ l, l < m → 0 ≤ r l) (h2 : ∀ i, i < n → 0 ≤ pr i) (h3 : ∀ p' q', Cert (Al k) c n m f p' q' → (∀ i, i < n → pr i ≤ p' i) ∧ ∀ l, l < m → r l ≤ q' l) : Rz k c n m f r r pr false 0 0 false :=
  ⟨h1, h2, h3, Int.le_refl _, (fun h => by cases h), fun _ => ⟨fun i' h => by omega, (fun h => by cases h)⟩⟩
theorem Rz.price (hf : Mtc (Al k) n m f) (hc0 : ∀ i l, i < n → alB k i l = true → 0 ≤ c i l) (h : Rz k c n m f r0 r pr ch i l false) (hi : i < n) : Rz k c n m f r0 r (updI pr i (r (f i) + c i (f i))) ch i 0 true := by
  have hv : ∀ t, updI pr i (r (f i) + c i (f i)) t = if t = i then r (f i) + c i (f i) else pr t := fun _ => rfl
  refine ⟨h.lo, fun t ht => ?_, fun p' q' hc => ⟨fun t ht => ?_, (h.up p' q' hc).2⟩, h.le, h.lt, fun hch => ⟨fun i' hi' => ?_, fun _ => ⟨?_, fun l' hl' => by omega⟩⟩⟩
  · rw [hv]
    by_cases e : t = i
    · rw [if_pos e]
      have h1 := h.lo (f i) (hf.1 i hi).1
      have h2 := hc0 i (f i) hi (hf.1 i hi).2
      omega
    · rw [if_neg e]; exact h.lp t ht
  · rw [hv]
    by_cases e : t = i
    · rw [if_pos e, e]
      have h1 := (h.up p' q' hc).2 (f i) (hf.1 i hi).1
      have h2 := hc.2.1 i hi
      omega
    · rw [if_neg e]; exact (h.up p' q' hc).1 t ht
  · rw [hv, if_neg (by omega)]
    exact (h.fix hch).1 i' hi'
  · rw [hv, if_pos rfl]
theorem Rz.same (h : Rz k c n m f r0 r pr ch i l true) (hs : pr i - c i l ≤ r l) : Rz k c n m f r0 r pr ch i (l + 1) true :=
  ⟨h.lo, h.lp, h.up, h.le, h.lt, fun hch => ⟨(h.fix hch).1, fun hi => ⟨((h.fix hch).2 hi).1, fun l' hl' ha => by
    by_cases e : l' = l
    · rw [e]; exact hs
    · exact ((h.fix hch).2 hi).2 l' (by omega) ha⟩⟩⟩
theorem Rz.rise (h : Rz k c n m f r0 r pr ch i l true) (hi : i < n) (hl : l < m) (ha : alB k i l = true) (hlt : r l < pr i - c i l) : Rz k c n m f r0 (updI r l (pr i - c i l)) pr true i (l + 1) true := by
  have hv : ∀ t, updI r l (pr i - c i l) t = if t = l then pr i - c i l else r t := fun _ => rfl
  have hs : sgTo (updI r l (pr i - c i l)) m = sgTo r m + (pr i - c i l - r l) := by
    have := sg_upd r l (pr i - c i l) m
    rw [if_pos hl] at this
    exact this
  have h0 := h.le
  refine ⟨fun t ht => ?_, h.lp, fun p' q' hc => ⟨(h.up p' q' hc).1, fun t ht => ?_⟩, by omega, fun _ => by omega, (fun h => by cases h)⟩
  · rw [hv]
    by_cases e : t = l
    · rw [if_pos e]
      have := h.lo l hl
      omega
    · rw [if_neg e]; exact h.lo t ht
  · rw [hv]
    by_cases e : t = l
    · rw [if_pos e, e]
      have h1 := (h.up p' q' hc).1 i hi
      have h2 := hc.1.2 i l hi hl ha
      omega
    · rw [if_neg e]; exact (h.up p' q' hc).2 t ht
theorem Rz.row (h : Rz k c n m f r0 r pr ch i l true) (hl : k + i ≤ l) : Rz k c n m f r0 r pr ch (i + 1) 0 false :=
  ⟨h.lo, h.lp, h.up, h.le, h.lt, fun hch => ⟨fun i' hi' => by
    by_cases e : i' = i
    · rw [e]
      exact ⟨((h.fix hch).2 rfl).1, fun l' _ ha => ((h.fix hch).2 rfl).2 l' (by have := alB_iff.1 ha; omega) ha⟩
    · exact (h.fix hch).1 i' (by omega), (fun h => by cases h)⟩⟩
theorem Rz.fin (hc : Cert (Al k) c n m f p q) (h : Rz k c n m f r0 r pr false n l false) : Low (Al k) c n m f pr ∧ Cert (Al k) c n m f pr r :=
  low_ref hc h.lo h.up fun i hi => ((h.fix rfl).1 i hi)
end
end Go.Proofs.YtllfchcocgdcjaaGreat
