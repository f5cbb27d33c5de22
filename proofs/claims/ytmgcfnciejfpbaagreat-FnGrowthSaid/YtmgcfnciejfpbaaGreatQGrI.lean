/- Several texts in one: RunP GrP CrQ ExP OpP. -/
import Derived.Test.YtmgcfnciejfpbaaGreatQSvS
import Derived.Test.YtmgcfnciejfpbaaGreatQGrH
namespace Go.Proofs.YtmgcfnciejfpbaaGreat
open Go.RowKit

--PURE
/-- the work list of the empty sequence -/
def wst (M P : List (List Int)) (a : List Int) : List Int := P.map fun b => mvC M a b
/-- the work lists after the first requests -/
def wlAt (M P : List (List Int)) (a X : List Int) : Nat → List Int
  | 0 => wst M P a
  | i + 1 => wnxL M P (wlAt M P a X i) (nth X i)
def wlL (M P : List (List Int)) (a X : List Int) (n : Nat) : List (List Int) := (List.range (n + 1)).map (wlAt M P a X)
theorem wlL_succ {M P : List (List Int)} {a X : List Int} {n : Nat} : wlL M P a X (n + 1) = wlL M P a X n ++ [wlAt M P a X (n + 1)] := by
  rw [wlL, List.range_succ, List.map_append]
  rfl
theorem wlL_len {M P : List (List Int)} {a X : List Int} {n : Nat} : (wlL M P a X n).length = n + 1 := by simp [wlL]
theorem wlL_row {M P : List (List Int)} {a X : List Int} {n i : Nat} (h : i ≤ n) : row (wlL M P a X n) i = wlAt M P a X i := by simp [wlL, row, show i < n + 1 by omega]
theorem wl_good {M : List (List Int)} {n k : Nat} {a X : List Int} (hd : Dst M n) (h1 : 1 ≤ k) (hk : k ≤ 3) (ha : a ∈ confs n k 0) (hX : ∀ j, j < X.length → 0 ≤ nth X j ∧ nth X j < (n : Int)) (hl : X.length ≤ 1000) :
    ∀ i, i ≤ X.length → GoodW M (confs n k 0) (wlAt M (confs n k 0) a X i) (297 + 198 * i) := by
  intro i
  induction i with
  | zero => intro _; exact start_good hd hk ha
  | succ i ih =>
    intro hi
    have h := (wnx_good hd h1 hk (ih (by omega)) (by omega) (hX i (by omega))).1
    refine h.mono ?_
    omega
end Go.Proofs.YtmgcfnciejfpbaaGreat
namespace Go.Proofs.YtmgcfnciejfpbaaGreat
open Go.RowKit
theorem cfg_confs {n : Nat} {a : List Int} (h : cfgB n a = true) : a ∈ confs n a.length 0 := by
  obtain ⟨h1, h2, h3⟩ := cfgB_iff.1 h
  exact confs_iff.2 ⟨rfl, h3, fun x hx => by have := h2 x hx; omega⟩
theorem srv_all {M : List (List Int)} {a X : List Int} (h : srvB M a X = true) : Dst M M.length ∧ (1 ≤ a.length ∧ a.length ≤ 3) ∧ a ∈ confs M.length a.length 0 ∧ (∀ j, j < X.length → 0 ≤ nth X j ∧ nth X j < (M.length : Int)) ∧ X.length ≤ 60 := by
  obtain ⟨h1, h2, h3, h4⟩ := srvB_iff.1 h
  exact ⟨dst_of_met h1, (cfgB_iff.1 h2).1, cfg_confs h2, fun j hj => belowB_at h4 hj, h3⟩
theorem conf_pts {n k : Nat} {c : List Int} (h : c ∈ confs n k 0) : c.length = k ∧ Pts n c := by
  obtain ⟨h1, _, h3⟩ := confs_iff.1 h
  exact ⟨h1, fun x hx => by have := h3 x hx; omega⟩
theorem mv_confs {M : List (List Int)} {k : Nat} {a b : List Int} (hd : Dst M M.length) (hk : k ≤ 3) (ha : a ∈ confs M.length k 0) (hb : b ∈ confs M.length k 0) : 0 ≤ mvC M a b ∧ mvC M a b ≤ 297 ∧ mvC M b a = mvC M a b := by
  obtain ⟨h1, h2⟩ := conf_pts ha
  obtain ⟨h3, h4⟩ := conf_pts hb
  have := mvC_in hd h2 h4 (by rw [h1, h3]) (by omega)
  exact ⟨this.1, by omega, mvC_symm hd h2 h4 (by rw [h1, h3]) (by omega)⟩
/-- the least cost -/
def lwR (M : List (List Int)) (a X : List Int) : Int := if srvB M a X then leastL (wlAt M (confs M.length a.length 0) a X X.length) else 0
theorem wl_ne {M : List (List Int)} {a X : List Int} (h : srvB M a X = true) {i : Nat} (hi : i ≤ X.length) : wlAt M (confs M.length a.length 0) a X i ≠ [] := by
  obtain ⟨hd, hk, ha, hX, hl⟩ := srv_all h
  have hw := wl_good hd hk.1 hk.2 ha hX (by omega) i hi
  have := (atR_lt ha).1
  intro e
  have h1 := hw.1.1
  rw [e] at h1
  simp at h1
  omega
end Go.Proofs.YtmgcfnciejfpbaaGreat
namespace Go.Proofs.YtmgcfnciejfpbaaGreat
open Go.RowKit
end Go.Proofs.YtmgcfnciejfpbaaGreat
namespace Go.Proofs.YtmgcfnciejfpbaaGreat
open Go.RowKit

--PURE
/-- the values behind an exchange of the s-th point of x and the t-th of y -/
def exS (P : List (List Int)) (ws x y : List Int) (s t : Nat) : Int := nth ws (atR P (svX x (nth y t) s)) + nth ws (atR P (svX y (nth x s) t))
/-- whether the s-th point of x can be exchanged -/
def exOk (P : List (List Int)) (ws x y : List Int) (s : Nat) : Bool := decide (∃ t, t < y.length ∧ exS P ws x y s t ≤ nth ws (atR P x) + nth ws (atR P y))
theorem exOk_yes {P : List (List Int)} {ws x y : List Int} {s t : Nat} (ht : t < y.length) (h : exS P ws x y s t ≤ nth ws (atR P x) + nth ws (atR P y)) : exOk P ws x y s = true := decide_eq_true ⟨t, ht, h⟩
theorem exOk_no {P : List (List Int)} {ws x y : List Int} {s : Nat} (h : ∀ t, t < y.length → ¬ exS P ws x y s t ≤ nth ws (atR P x) + nth ws (atR P y)) : exOk P ws x y s = false := decide_eq_false fun ⟨t, ht, h'⟩ => h t ht h'
/-- the first hit below n -/
def fstTo {β : Type} (f : Nat → Option β) : Nat → Option β
  | 0 => none
  | n + 1 => match fstTo f n with
    | some b => some b
    | none => f n
theorem fst_none {β : Type} {f : Nat → Option β} : ∀ {n : Nat}, (∀ i, i < n → f i = none) → fstTo f n = none
  | 0, _ => rfl
  | n + 1, h => by
    rw [fstTo, fst_none (n := n) fun i hi => h i (by omega)]
    exact h n (by omega)
theorem fst_at {β : Type} {f : Nat → Option β} {i : Nat} {b : β} (h : ∀ j, j < i → f j = none) (hb : f i = some b) : ∀ {n : Nat}, i < n → fstTo f n = some b
  | 0, hn => by omega
  | n + 1, hn => by
    rw [fstTo]
    by_cases e : i = n
    · rw [← e, fst_none h]
      exact hb
    · rw [fst_at h hb (n := n) (by omega)]
def exS3 (P : List (List Int)) (ws : List Int) (i j s : Nat) : Option (Nat × Nat × Nat) := if exOk P ws (row P i) (row P j) s then none else some (i, j, s)
def exS2 (P : List (List Int)) (ws : List Int) (k i j : Nat) : Option (Nat × Nat × Nat) := fstTo (exS3 P ws i j) k
def exS1 (P : List (List Int)) (ws : List Int) (k i : Nat) : Option (Nat × Nat × Nat) := fstTo (exS2 P ws k i) P.length
def exR (P : List (List Int)) (ws : List Int) (k : Nat) : Option (Nat × Nat × Nat) := fstTo (exS1 P ws k) P.length
theorem exS3_ok {P : List (List Int)} {ws : List Int} {i j s : Nat} (h : exOk P ws (row P i) (row P j) s = true) : exS3 P ws i j s = none := by rw [exS3, h]; rfl
theorem exR_hit {P : List (List Int)} {ws : List Int} {k i j s : Nat} (h1 : ∀ q, q < i → exS1 P ws k q = none) (h2 : ∀ q, q < j → exS2 P ws k i q = none) (h3 : ∀ q, q < s → exS3 P ws i j q = none) (hi : i < P.length) (hj : j < P.length) (hs : s < k) (h : exOk P ws (row P i) (row P j) s = false) : exR P ws k = some (i, j, s) :=
  fst_at h1 (fst_at h2 (fst_at h3 (by rw [exS3, h]; rfl) hs) hj) hi
theorem exR_miss {P : List (List Int)} {ws : List Int} {k : Nat} (h1 : ∀ q, q < P.length → exS1 P ws k q = none) : exR P ws k = none := fst_none h1
def exbO (M : List (List Int)) (k : Int) (ws : List Int) : Option (Nat × Nat × Nat) := if metB M && (inB k 1 3 && workB M (confs M.length k.toNat 0) ws) then exR (confs M.length k.toNat 0) ws k.toNat else none
def exbB (M : List (List Int)) (k : Int) (ws : List Int) : Bool := (exbO M k ws).isSome
def exbX (M : List (List Int)) (k : Int) (ws : List Int) : List Int := match exbO M k ws with
  | some (i, _, _) => row (confs M.length k.toNat 0) i
  | none => []
def exbY (M : List (List Int)) (k : Int) (ws : List Int) : List Int := match exbO M k ws with
  | some (_, j, _) => row (confs M.length k.toNat 0) j
  | none => []
def exbP (M : List (List Int)) (k : Int) (ws : List Int) : Int := match exbO M k ws with
  | some (i, _, s) => nth (row (confs M.length k.toNat 0) i) s
  | none => 0
theorem exb_none {M : List (List Int)} {k : Int} {ws : List Int} (h : exbO M k ws = none) : exbX M k ws = [] ∧ exbY M k ws = [] ∧ exbP M k ws = 0 ∧ exbB M k ws = false := by
  simp only [exbX, exbY, exbP, exbB, h]
  exact ⟨trivial, trivial, trivial, rfl⟩
theorem exb_some {M : List (List Int)} {k : Int} {ws : List Int} {i j s : Nat} (h : exbO M k ws = some (i, j, s)) : exbX M k ws = row (confs M.length k.toNat 0) i ∧ exbY M k ws = row (confs M.length k.toNat 0) j ∧ exbP M k ws = nth (row (confs M.length k.toNat 0) i) s ∧ exbB M k ws = true := by
  simp only [exbX, exbY, exbP, exbB, h]
  exact ⟨trivial, trivial, trivial, rfl⟩
theorem exb_len {M : List (List Int)} {k : Int} {ws : List Int} : (exbX M k ws).length ≤ 1000 ∧ (exbY M k ws).length ≤ 1000 := by
  have hrow : ∀ i, (row (confs M.length k.toNat 0) i).length ≤ k.toNat := fun i => by
    by_cases h : i < (confs M.length k.toNat 0).length
    · have := (confs_iff.1 (row_mem h)).1; omega
    · rw [show row (confs M.length k.toNat 0) i = [] by simp [row, show ¬ i < (confs M.length k.toNat 0).length from h]]
      exact Nat.zero_le _
  cases h : exbO M k ws with
  | none => rw [(exb_none h).1, (exb_none h).2.1]; simp
  | some t =>
    obtain ⟨i, j, s⟩ := t
    rw [(exb_some h).1, (exb_some h).2.1]
    have hk : k.toNat ≤ 3 := by
      unfold exbO at h
      split at h
      · rename_i hc
        simp only [Bool.and_eq_true] at hc
        have := inB_true.1 hc.2.1
        omega
      · cases h
    have := hrow i
    have := hrow j
    omega
end Go.Proofs.YtmgcfnciejfpbaaGreat
namespace Go.Proofs.YtmgcfnciejfpbaaGreat
open Go.RowKit
end Go.Proofs.YtmgcfnciejfpbaaGreat
