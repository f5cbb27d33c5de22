/- The choice of the work function algorithm, the reference's; its first work list. -/
import Derived.Test.YtcfhmbmagkoekaaNxtS
namespace Go.Proofs.Ytcfhmbmagkoekaa
open Go.RowKit

theorem ext_below {B : Nat} {a b c : World} (h : Below B a b) (hB : B ≤ b.heap.size) [e : Ext b c] : Below B a c := h.trans (e.below.mono hB)
theorem lexC_pre {a b : List Int} : ∀ {i : Nat}, i ≤ a.length → i ≤ b.length → (∀ j, j < i → nth a j = nth b j) → lexC a b = lexC (a.drop i) (b.drop i) := by
  intro i
  induction i with
  | zero => intro _ _ _; rfl
  | succ i ih =>
    intro ha hb h
    rw [ih (by omega) (by omega) (fun j hj => h j (by omega)), lexC_step (by omega) (by omega), h i (by omega)]
    simp [cmpI]
theorem lexC_at {a b : List Int} {i : Nat} (ha : i < a.length) (hb : i < b.length) (h : ∀ j, j < i → nth a j = nth b j) (hne : nth a i ≠ nth b i) : decide (lexC a b < 0) = decide (nth a i < nth b i) := by
  have e : lexC a b = cmpI (nth a i) (nth b i) := by
    rw [lexC_pre (by omega) (by omega) h, lexC_step ha hb, if_pos]
    unfold cmpI
    split
    · decide
    · rw [if_pos (by omega)]; decide
  rw [e, cmpI]
  by_cases h1 : nth a i < nth b i
  · simp [h1]
  · rw [if_neg h1, if_pos (by omega)]; simp; omega

theorem sv_yes {M P : List (List Int)} {nx a : List Int} {r : Int} {s : Nat} (h : svN M P nx a r s < (svT M P nx a r s).2.2 ∨ (svN M P nx a r s = (svT M P nx a r s).2.2 ∧ lexC (svX a r s) (svT M P nx a r s).1 < 0)) : (svT M P nx a r (s + 1)).1 = svX a r s ∧ (svT M P nx a r (s + 1)).2.1 = cell M (nth a s).toNat r.toNat ∧ svL M P nx a r (s + 1) = svN M P nx a r s := by
  rw [svL, svT_yes h]
  exact ⟨rfl, rfl, if_neg (by omega)⟩
theorem sv_no {M P : List (List Int)} {nx a : List Int} {r : Int} {s : Nat} (h : ¬ (svN M P nx a r s < (svT M P nx a r s).2.2 ∨ (svN M P nx a r s = (svT M P nx a r s).2.2 ∧ lexC (svX a r s) (svT M P nx a r s).1 < 0))) : (svT M P nx a r (s + 1)).1 = (svT M P nx a r s).1 ∧ (svT M P nx a r (s + 1)).2.1 = (svT M P nx a r s).2.1 ∧ svL M P nx a r (s + 1) = (svT M P nx a r s).2.2 := by
  rw [svL, svT_no h]
  exact ⟨rfl, rfl, if_neg (by omega)⟩
theorem svL_pos {M P : List (List Int)} {nx a : List Int} {r : Int} {s : Nat} (h : s ≠ 0) : svL M P nx a r s = (svT M P nx a r s).2.2 := if_neg h
theorem svT_len {M : List (List Int)} {n k : Nat} {r L : Int} {nx a : List Int} (hd : Dst M n) (hg : GoodW M (confs n k 0) nx L) (hL : L ≤ 2000000) (ha : a ∈ confs n k 0) (hr : 0 ≤ r ∧ r < (n : Int)) {s : Nat} (hs : s ≤ k) (h1 : 1 ≤ s) : (svT M (confs n k 0) nx a r s).1.length = a.length ∧ 0 ≤ (svT M (confs n k 0) nx a r s).2.2 := by
  obtain ⟨t, ht, h2⟩ := svT_at (M := M) (P := confs n k 0) (nx := nx) (a := a) (r := r) (s := s) (fun t ht => by have := (svN_in hd hg ha (s := t) (by omega) hr).2; omega) h1
  rw [h2]
  exact ⟨by rw [svX, sortL_len, List.length_set], (svN_in hd hg ha (s := t) (by omega) hr).1⟩

end Go.Proofs.Ytcfhmbmagkoekaa
