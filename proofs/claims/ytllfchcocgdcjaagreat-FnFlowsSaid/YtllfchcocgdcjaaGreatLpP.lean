/- The least prices in plain words. -/
import Derived.Test.YtllfchcocgdcjaaGreatPbI
import Derived.Test.YtllfchcocgdcjaaGreatAsR
namespace Go.Proofs.YtllfchcocgdcjaaGreat
open Go.RowKit

theorem sg_one {f : Nat → Int} : ∀ {n : Nat}, (∀ i, i < n → 0 ≤ f i) → ∀ i, i < n → f i ≤ sgTo f n
  | 0, _, i, hi => by omega
  | n + 1, h, i, hi => by
    have h1 := sg_nn (f := f) (n := n) fun i hi => h i (by omega)
    have h2 := h n (by omega)
    rw [sgTo]
    by_cases e : i = n
    · rw [e]; omega
    · have := sg_one (n := n) (fun i hi => h i (by omega)) i (by omega)
      omega
theorem sg_const (x : Int) : ∀ n : Nat, sgTo (fun _ => x) n = x * n
  | 0 => by simp [sgTo]
  | n + 1 => by rw [sgTo, sg_const x n, Int.natCast_add, Int.mul_add]; simp
/-- whether a row may have a column -/
abbrev Al (k : Nat) : Nat → Nat → Prop := fun i l => alB k i l = true
theorem alB_iff {k i l : Nat} : alB k i l = true ↔ l < k + i := by unfold alB; simp
/-- each row can be had by the row ahead -/
theorem fea {k : Nat} (hk : 1 ≤ k) (n : Nat) : Mtc (Al k) n (k + n) (fun i => if i = 0 then 0 else k + i - 1) := by
  refine ⟨fun i hi => ?_, fun i j hi hj e => ?_⟩
  · show (if i = 0 then 0 else k + i - 1) < k + n ∧ alB k i (if i = 0 then 0 else k + i - 1) = true
    rw [alB_iff]
    split <;> omega
  · have e' : (if i = 0 then 0 else k + i - 1) = if j = 0 then 0 else k + j - 1 := e
    split at e' <;> split at e' <;> omega
theorem srv_cost {M : List (List Int)} {a X : List Int} (hs : srvB M a X = true) {i l : Nat} (hi : i < X.length) (h : alB a.length i l = true) : 0 ≤ flC M a X i l ∧ flC M a X i l ≤ 99 := by
  obtain ⟨hM, hal, hab, hXb, hXl⟩ := srv_pts hs
  rw [alB_iff] at h
  have := flC_bd hM hab hXb (i := i) (k := l) hi (by omega)
  exact ⟨this.1, this.2.1 h⟩
theorem mc_bd {M : List (List Int)} {a X : List Int} (hs : srvB M a X = true) {g : Nat → Nat} (hg : Mtc (Al a.length) X.length (a.length + X.length) g) : 0 ≤ mcost (flC M a X) g X.length ∧ mcost (flC M a X) g X.length ≤ 99 * X.length := by
  have h1 : ∀ i, i < X.length → 0 ≤ flC M a X i (g i) ∧ flC M a X i (g i) ≤ 99 := fun i hi => srv_cost hs hi (hg.1 i hi).2
  have h2 := sg_le (f := fun i => flC M a X i (g i)) (g := fun _ => 99) (n := X.length) fun i hi => (h1 i hi).2
  rw [sg_const] at h2
  exact ⟨sg_nn fun i hi => (h1 i hi).1, h2⟩
/-- a best matching of the whole table has no column that the row may not have -/
theorem al_of {M : List (List Int)} {a X : List Int} (hs : srvB M a X = true) {f : Nat → Nat} {p q : Nat → Int} (hf : Mtc (fun _ _ => True) X.length (a.length + X.length) f)
    (hc : Cert (fun _ _ => True) (flC M a X) X.length (a.length + X.length) f p q) : Mtc (Al a.length) X.length (a.length + X.length) f ∧ Cert (Al a.length) (flC M a X) X.length (a.length + X.length) f p q := by
  obtain ⟨hM, hal, hab, hXb, hXl⟩ := srv_pts hs
  have hg := fea hal.1 X.length
  have h1 := (mc_bd hs hg).2
  have h2 := hc.opt hf (g := fun i => if i = 0 then 0 else a.length + i - 1) ⟨fun i hi => ⟨(hg.1 i hi).1, trivial⟩, hg.2⟩
  have h3 : ∀ i, i < X.length → 0 ≤ flC M a X i (f i) := fun i hi => (flC_bd hM hab hXb (i := i) (k := f i) hi (hf.1 i hi).1).1
  have h4 := sg_one h3
  refine ⟨⟨fun i hi => ⟨(hf.1 i hi).1, ?_⟩, hf.2⟩, ⟨hc.1.1, fun i l hi hl _ => hc.1.2 i l hi hl trivial⟩, hc.2⟩
  refine alB_iff.2 (Classical.byContradiction fun e => ?_)
  have h5 := h4 i hi
  have h6 : flC M a X i (f i) = 1073741824 := by unfold flC; rw [if_neg e]
  rw [h6] at h5
  have h7 : sgTo (fun i => flC M a X i (f i)) X.length = mcost (flC M a X) f X.length := rfl
  omega
/-- what holds while the program's prices rise: o0 those of the round's begin, scanned to the row j for the price i -/
structure Sc (k : Nat) (c : Nat → Nat → Int) (n m : Nat) (f : Nat → Nat) (o0 o : Nat → Int) (ch : Bool) (i j : Nat) : Prop where
  low : ∀ i, i < n → c i (f i) ≤ o i
  up : ∀ p' q', Cert (Al k) c n m f p' q' → ∀ i, i < n → o i ≤ p' i
  le : sgTo o0 n ≤ sgTo o n
  lt : ch = true → sgTo o0 n < sgTo o n
  fix : ch = false → ∀ i' j', i' < n → j' < n → (i' < i ∨ (i' = i ∧ j' < j)) → alB k j' (f i') = true → o j' - c j' (f i') + c i' (f i') ≤ o i'
section
variable {k n m : Nat} {c : Nat → Nat → Int} {f : Nat → Nat} {o0 o : Nat → Int} {ch : Bool} {i j : Nat}
theorem Sc.begin (h1 : ∀ i, i < n → c i (f i) ≤ o i) (h2 : ∀ p' q', Cert (Al k) c n m f p' q' → ∀ i, i < n → o i ≤ p' i) : Sc k c n m f o o false 0 0 :=
  ⟨h1, h2, Int.le_refl _, (fun h => by cases h), fun _ i' j' _ _ h => by omega⟩
theorem Sc.row (h : Sc k c n m f o0 o ch i n) : Sc k c n m f o0 o ch (i + 1) 0 :=
  ⟨h.low, h.up, h.le, h.lt, fun hc i' j' h1 h2 h3 => h.fix hc i' j' h1 h2 (by omega)⟩
theorem Sc.same (h : Sc k c n m f o0 o ch i j) (hs : alB k j (f i) = true → o j - c j (f i) + c i (f i) ≤ o i) : Sc k c n m f o0 o ch i (j + 1) :=
  ⟨h.low, h.up, h.le, h.lt, fun hc i' j' h1 h2 h3 ha => by
    by_cases e : i' = i ∧ j' = j
    · obtain ⟨rfl, rfl⟩ := e
      exact hs ha
    · exact h.fix hc i' j' h1 h2 (by omega) ha⟩
theorem Sc.rise (hf : Mtc (Al k) n m f) (h : Sc k c n m f o0 o ch i j) (hi : i < n) (hj : j < n) (ha : alB k j (f i) = true) (hlt : o i < o j - c j (f i) + c i (f i)) :
    Sc k c n m f o0 (updI o i (o j - c j (f i) + c i (f i))) true i (j + 1) := by
  have hv : ∀ t, updI o i (o j - c j (f i) + c i (f i)) t = if t = i then o j - c j (f i) + c i (f i) else o t := fun _ => rfl
  have hs : sgTo (updI o i (o j - c j (f i) + c i (f i))) n = sgTo o n + (o j - c j (f i) + c i (f i) - o i) := by
    have := sg_upd o i (o j - c j (f i) + c i (f i)) n
    rw [if_pos hi] at this
    exact this
  refine ⟨fun t ht => ?_, fun p' q' hc t ht => ?_, ?_, fun _ => ?_, fun h => by cases h⟩
  · rw [hv]
    by_cases e : t = i
    · rw [if_pos e, e]
      have := h.low i hi
      omega
    · rw [if_neg e]; exact h.low t ht
  · rw [hv]
    by_cases e : t = i
    · rw [if_pos e, e]
      exact prog_step hc hf hi hj ha (h.up p' q' hc j hj)
    · rw [if_neg e]; exact h.up p' q' hc t ht
  · have := h.le; omega
  · have := h.le; omega
theorem Sc.fin (hf : Mtc (Al k) n m f) {p q : Nat → Int} (hc : Cert (Al k) c n m f p q) (h : Sc k c n m f o0 o false n 0) : Low (Al k) c n m f o :=
  low_prog hf hc h.low h.up fun i j hi hj ha => h.fix rfl i j hi hj (Or.inl hi) ha
end
end Go.Proofs.YtllfchcocgdcjaaGreat
