/- Several texts in one: RunP GrP CrQ ExP OpP. -/
import Derived.Test.YtllfchcocgdcjaaGreatSvS
import Derived.Test.YtllfchcocgdcjaaGreatGrH
namespace Go.Proofs.YtllfchcocgdcjaaGreat
open Go.RowKit

--PURE
/-- the work list of the empty sequence -/
def wst (M P : List (List Int)) (a : List Int) : List Int := P.map fun b => mvC M a b
/-- the work lists after the first requests -/
def wlAt (M P : List (List Int)) (a X : List Int) : Nat → List Int
  | 0 => wst M P a
  | i + 1 => wnxL M P (wlAt M P a X i) (nth X i)
def wlL (M P : List (List Int)) (a X : List Int) (n : Nat) : List (List Int) := (List.range (n + 1)).map (wlAt M P a X)
theorem wlL_succ {M P : List (List Int)} {a X : List Int} {n : Nat} : wlL M P a X (n + 1) = wlL M P a X n ++ [wlAt M P a X (n + 1)] := by
  rw [wlL, List.range_succ, List.map_append]
  rfl
theorem wlL_len {M P : List (List Int)} {a X : List Int} {n : Nat} : (wlL M P a X n).length = n + 1 := by simp [wlL]
theorem wlL_row {M P : List (List Int)} {a X : List Int} {n i : Nat} (h : i ≤ n) : row (wlL M P a X n) i = wlAt M P a X i := by simp [wlL, row, show i < n + 1 by omega]
theorem wl_good {M : List (List Int)} {n k : Nat} {a X : List Int} (hd : Dst M n) (h1 : 1 ≤ k) (hk : k ≤ 3) (ha : a ∈ confs n k 0) (hX : ∀ j, j < X.length → 0 ≤ nth X j ∧ nth X j < (n : Int)) (hl : X.length ≤ 1000) :
    ∀ i, i ≤ X.length → GoodW M (confs n k 0) (wlAt M (confs n k 0) a X i) (297 + 198 * i) := by
  intro i
  induction i with
  | zero => intro _; exact start_good hd hk ha
  | succ i ih =>
    intro hi
    have h := (wnx_good hd h1 hk (ih (by omega)) (by omega) (hX i (by omega))).1
    refine h.mono ?_
    omega
end Go.Proofs.YtllfchcocgdcjaaGreat
namespace Go.Proofs.YtllfchcocgdcjaaGreat
open Go.RowKit

--PURE
/-- where a schedule is ahead of a request -/
def scP (a : List Int) (C : List (List Int)) (i : Nat) : List Int := if i = 0 then a else row C (i - 1)
theorem scP_zero (a : List Int) (C : List (List Int)) : scP a C 0 = a := rfl
theorem scP_succ (a : List Int) (C : List (List Int)) (i : Nat) : scP a C (i + 1) = row C i := by simp [scP]
def scTo (M : List (List Int)) (a : List Int) (C : List (List Int)) : Nat → Int
  | 0 => 0
  | i + 1 => scTo M a C i + mvC M (scP a C i) (row C i)
def smOk (M : List (List Int)) (a X : List Int) (C : List (List Int)) (i : Nat) : Bool := cfgB M.length (row C i) && (decide ((row C i).length = a.length) && hasB (row C i) (nth X i))
def smB (M : List (List Int)) (a X : List Int) (C : List (List Int)) : Bool := srvB M a X && (decide (C.length = X.length) && decide (∀ i, i < C.length → smOk M a X C i = true))
def smR (M : List (List Int)) (a X : List Int) (C : List (List Int)) : Int := if smB M a X C then scTo M a C X.length else 0
theorem smOk_iff {M : List (List Int)} {a X : List Int} {C : List (List Int)} {i : Nat} : smOk M a X C i = true ↔ cfgB M.length (row C i) = true ∧ (row C i).length = a.length ∧ hasB (row C i) (nth X i) = true := by simp [smOk]
theorem smB_iff {M : List (List Int)} {a X : List Int} {C : List (List Int)} : smB M a X C = true ↔ srvB M a X = true ∧ C.length = X.length ∧ ∀ i, i < C.length → smOk M a X C i = true := by simp [smB]
theorem cfg_confs {n : Nat} {a : List Int} (h : cfgB n a = true) : a ∈ confs n a.length 0 := by
  obtain ⟨h1, h2, h3⟩ := cfgB_iff.1 h
  exact confs_iff.2 ⟨rfl, h3, fun x hx => by have := h2 x hx; omega⟩
theorem srv_all {M : List (List Int)} {a X : List Int} (h : srvB M a X = true) : Dst M M.length ∧ (1 ≤ a.length ∧ a.length ≤ 3) ∧ a ∈ confs M.length a.length 0 ∧ (∀ j, j < X.length → 0 ≤ nth X j ∧ nth X j < (M.length : Int)) ∧ X.length ≤ 60 := by
  obtain ⟨h1, h2, h3, h4⟩ := srvB_iff.1 h
  exact ⟨dst_of_met h1, (cfgB_iff.1 h2).1, cfg_confs h2, fun j hj => belowB_at h4 hj, h3⟩
theorem scP_mem {M : List (List Int)} {a X : List Int} {C : List (List Int)} (h : smB M a X C = true) {i : Nat} (hi : i ≤ C.length) : scP a C i ∈ confs M.length a.length 0 := by
  obtain ⟨h1, h2, h3⟩ := smB_iff.1 h
  cases i with
  | zero => exact (srv_all h1).2.2.1
  | succ i =>
    rw [scP_succ]
    obtain ⟨h4, h5, _⟩ := smOk_iff.1 (h3 i (by omega))
    rw [← h5]
    exact cfg_confs h4
theorem conf_pts {n k : Nat} {c : List Int} (h : c ∈ confs n k 0) : c.length = k ∧ Pts n c := by
  obtain ⟨h1, _, h3⟩ := confs_iff.1 h
  exact ⟨h1, fun x hx => by have := h3 x hx; omega⟩
theorem mv_confs {M : List (List Int)} {k : Nat} {a b : List Int} (hd : Dst M M.length) (hk : k ≤ 3) (ha : a ∈ confs M.length k 0) (hb : b ∈ confs M.length k 0) : 0 ≤ mvC M a b ∧ mvC M a b ≤ 297 ∧ mvC M b a = mvC M a b := by
  obtain ⟨h1, h2⟩ := conf_pts ha
  obtain ⟨h3, h4⟩ := conf_pts hb
  have := mvC_in hd h2 h4 (by rw [h1, h3]) (by omega)
  exact ⟨this.1, by omega, mvC_symm hd h2 h4 (by rw [h1, h3]) (by omega)⟩
theorem mv_self {M : List (List Int)} {k : Nat} {a : List Int} (hd : Dst M M.length) (hk : k ≤ 3) (ha : a ∈ confs M.length k 0) : mvC M a a = 0 := by
  obtain ⟨h1, h2⟩ := conf_pts ha
  exact (mvC_zero hd h2 h2 rfl (by omega)).2 (List.Perm.refl _)
/-- the work list never asks more than a schedule has paid -/
theorem wl_sched {M : List (List Int)} {a X : List Int} {C : List (List Int)} (h : smB M a X C = true) : ∀ i, i ≤ C.length → nth (wlAt M (confs M.length a.length 0) a X i) (atR (confs M.length a.length 0) (scP a C i)) ≤ scTo M a C i := by
  obtain ⟨h1, h2, h3⟩ := smB_iff.1 h
  obtain ⟨hd, hk, ha, hX, hl⟩ := srv_all h1
  have hw := wl_good hd hk.1 hk.2 ha hX (by omega)
  intro i
  induction i with
  | zero =>
    intro _
    obtain ⟨g1, g2⟩ := atR_lt ha
    rw [scP_zero, wlAt, wst, scTo]
    have : nth ((confs M.length a.length 0).map fun b => mvC M a b) (atR (confs M.length a.length 0) a) = mvC M a a := by
      have hn : ∀ j, j < (confs M.length a.length 0).length → nth ((confs M.length a.length 0).map fun b => mvC M a b) j = mvC M a (row (confs M.length a.length 0) j) := fun j hj => by simp [nth, row, hj]
      rw [hn _ g1, g2]
    rw [this, mv_self hd hk.2 ha]
    exact Int.le_refl _
  | succ i ih =>
    intro hi
    have hp := scP_mem h (i := i) (by omega)
    have hq := scP_mem h (i := i + 1) hi
    have h6 := ih (by omega)
    rw [scP_succ] at hq ⊢
    obtain ⟨g1, g2⟩ := atR_lt hp
    obtain ⟨f1, f2⟩ := atR_lt hq
    obtain ⟨_, _, h9⟩ := smOk_iff.1 (h3 i (by omega))
    have hg := hw i (by omega)
    have hway := (wnx_way hd hk.1 hk.2 hg (by omega) f1 (hX i (by omega))).1 _ f1 (by rw [f2]; exact hasB_true.1 h9)
    have hlip := hg.1.2 _ _ f1 g1
    rw [f2, g2] at hlip
    have hsy := (mv_confs hd hk.2 hp hq).2.2
    have hself := mv_self hd hk.2 hq
    rw [viS, f2, hself] at hway
    rw [wlAt, wnx_at (by rw [hg.1.1]; exact f1), scTo]
    omega
/-- the least cost -/
def lwR (M : List (List Int)) (a X : List Int) : Int := if srvB M a X then leastL (wlAt M (confs M.length a.length 0) a X X.length) else 0
theorem wl_ne {M : List (List Int)} {a X : List Int} (h : srvB M a X = true) {i : Nat} (hi : i ≤ X.length) : wlAt M (confs M.length a.length 0) a X i ≠ [] := by
  obtain ⟨hd, hk, ha, hX, hl⟩ := srv_all h
  have hw := wl_good hd hk.1 hk.2 ha hX (by omega) i hi
  have := (atR_lt ha).1
  intro e
  have h1 := hw.1.1
  rw [e] at h1
  simp at h1
  omega
theorem least_le {M : List (List Int)} {a X : List Int} {C : List (List Int)} (h : smB M a X C = true) : lwR M a X ≤ smR M a X C := by
  obtain ⟨h1, h2, h3⟩ := smB_iff.1 h
  obtain ⟨hd, hk, ha, hX, hl⟩ := srv_all h1
  have hw := wl_good hd hk.1 hk.2 ha hX (by omega) X.length (Nat.le_refl _)
  rw [lwR, if_pos h1, smR, if_pos h]
  have hm := (leastL_min (wl_ne h1 (Nat.le_refl X.length))).2
  have h4 := wl_sched h X.length (by omega)
  have h5 := (atR_lt (scP_mem h (i := X.length) (by omega))).1
  have h6 := hm _ (nth_mem (show atR (confs M.length a.length 0) (scP a C X.length) < (wlAt M (confs M.length a.length 0) a X X.length).length by rw [hw.1.1]; exact h5))
  have h7 : leastL (wlAt M (confs M.length a.length 0) a X X.length) ≤ nth (wlAt M (confs M.length a.length 0) a X X.length) (atR (confs M.length a.length 0) (scP a C X.length)) := h6
  omega

/-! the greedy schedule -/
end Go.Proofs.YtllfchcocgdcjaaGreat
namespace Go.Proofs.YtllfchcocgdcjaaGreat
open Go.RowKit
end Go.Proofs.YtllfchcocgdcjaaGreat
namespace Go.Proofs.YtllfchcocgdcjaaGreat
open Go.RowKit
/-- the first hit below n -/
def fstTo {β : Type} (f : Nat → Option β) : Nat → Option β
  | 0 => none
  | n + 1 => match fstTo f n with
    | some b => some b
    | none => f n
theorem fst_none {β : Type} {f : Nat → Option β} : ∀ {n : Nat}, (∀ i, i < n → f i = none) → fstTo f n = none
  | 0, _ => rfl
  | n + 1, h => by
    rw [fstTo, fst_none (n := n) fun i hi => h i (by omega)]
    exact h n (by omega)
theorem fst_at {β : Type} {f : Nat → Option β} {i : Nat} {b : β} (h : ∀ j, j < i → f j = none) (hb : f i = some b) : ∀ {n : Nat}, i < n → fstTo f n = some b
  | 0, hn => by omega
  | n + 1, hn => by
    rw [fstTo]
    by_cases e : i = n
    · rw [← e, fst_none h]
      exact hb
    · rw [fst_at h hb (n := n) (by omega)]
end Go.Proofs.YtllfchcocgdcjaaGreat
namespace Go.Proofs.YtllfchcocgdcjaaGreat
open Go.RowKit

--PURE
/-- the least costs of the last d requests, from each configuration on -/
def rsD (M P : List (List Int)) (X : List Int) : Nat → List Int
  | 0 => P.map fun _ => 0
  | d + 1 => wnxL M P (rsD M P X d) (nth X (X.length - 1 - d))
theorem rs_zero {M P : List (List Int)} {X : List Int} {j : Nat} (h : j < P.length) : nth (rsD M P X 0) j = 0 := by simp [rsD, nth, h]
theorem rs_good {M : List (List Int)} {a X : List Int} (h : srvB M a X = true) : ∀ d, d ≤ X.length → GoodW M (confs M.length a.length 0) (rsD M (confs M.length a.length 0) X d) (198 * d) := by
  obtain ⟨hd, hk, ha, hX, hl⟩ := srv_all h
  intro d
  induction d with
  | zero =>
    intro _
    refine ⟨⟨by simp [rsD], fun i j hi hj => ?_⟩, fun j hj => by rw [rs_zero hj]; omega⟩
    rw [rs_zero hi, rs_zero hj]
    have := (mv_confs hd hk.2 (row_mem hi) (row_mem hj)).1
    omega
  | succ d ih =>
    intro hi
    have h1 := (wnx_good hd hk.1 hk.2 (ih (by omega)) (by omega) (hX (X.length - 1 - d) (by omega))).1
    exact h1.mono (by omega)
/-- the test of a place -/
def lsC (M P : List (List Int)) (rs x : List Int) (r cost : Int) (j : Nat) : Bool := hasB (row P j) r && decide (mvC M x (row P j) + nth rs j = cost)
def lsF (M P : List (List Int)) (rs x : List Int) (r cost : Int) (j : Nat) : Option Nat := if lsC M P rs x r cost j then some j else none
def lsJ (M P : List (List Int)) (rs x : List Int) (r cost : Int) : Nat := (fstTo (lsF M P rs x r cost) P.length).getD 0
theorem lsJ_at {M P : List (List Int)} {rs x : List Int} {r cost : Int} {j : Nat} (hj : j < P.length) (h0 : ∀ z, z < j → lsC M P rs x r cost z = false) (h1 : lsC M P rs x r cost j = true) : lsJ M P rs x r cost = j := by
  have := fst_at (f := lsF M P rs x r cost) (i := j) (b := j) (fun z hz => by rw [lsF, h0 z hz]; rfl) (by rw [lsF, h1]; rfl) (n := P.length) hj
  rw [lsJ, this]
  rfl
/-- the configuration after i requests -/
def lsA (M P : List (List Int)) (a X : List Int) : Nat → List Int
  | 0 => a
  | i + 1 => row P (lsJ M P (rsD M P X (X.length - (i + 1))) (lsA M P a X i) (nth X i) (nth (rsD M P X (X.length - i)) (atR P (lsA M P a X i))))
def lsT (M P : List (List Int)) (a X : List Int) (n : Nat) : List (List Int) := (List.range n).map fun i => lsA M P a X (i + 1)
theorem lsT_len {M P : List (List Int)} {a X : List Int} {n : Nat} : (lsT M P a X n).length = n := by simp [lsT]
theorem lsT_row {M P : List (List Int)} {a X : List Int} {n i : Nat} (h : i < n) : row (lsT M P a X n) i = lsA M P a X (i + 1) := by simp [lsT, row, h]
/-- the first place with a test, and it is there -/
theorem first_of {f : Nat → Bool} : ∀ {n : Nat}, (∃ j, j < n ∧ f j = true) → ∃ j, j < n ∧ f j = true ∧ ∀ z, z < j → f z = false := by
  intro n
  induction n with
  | zero => rintro ⟨j, hj, _⟩; omega
  | succ n ih =>
    rintro ⟨j, hj, hf⟩
    by_cases h : ∃ j, j < n ∧ f j = true
    · obtain ⟨q, h1, h2, h3⟩ := ih h
      exact ⟨q, by omega, h2, h3⟩
    · refine ⟨j, hj, hf, fun z hz => ?_⟩
      cases hz2 : f z with
      | false => rfl
      | true => exact absurd ⟨z, by omega, hz2⟩ h
theorem ls_step {M : List (List Int)} {a X x : List Int} (h : srvB M a X = true) (hx : x ∈ confs M.length a.length 0) {i : Nat} (hi : i < X.length) :
    ∃ j, j < (confs M.length a.length 0).length ∧ lsC M (confs M.length a.length 0) (rsD M (confs M.length a.length 0) X (X.length - (i + 1))) x (nth X i) (nth (rsD M (confs M.length a.length 0) X (X.length - i)) (atR (confs M.length a.length 0) x)) j = true := by
  obtain ⟨hd, hk, ha, hX, hl⟩ := srv_all h
  have hg := rs_good h (X.length - (i + 1)) (by omega)
  obtain ⟨g1, g2⟩ := atR_lt hx
  obtain ⟨_, t, ht, hrt, he⟩ := wnx_way hd hk.1 hk.2 hg (by omega) g1 (hX i hi)
  refine ⟨t, ht, ?_⟩
  have e : rsD M (confs M.length a.length 0) X (X.length - i) = wnxL M (confs M.length a.length 0) (rsD M (confs M.length a.length 0) X (X.length - (i + 1))) (nth X i) := by
    rw [show X.length - i = (X.length - (i + 1)) + 1 by omega, rsD, show X.length - 1 - (X.length - (i + 1)) = i by omega]
  rw [e, wnx_at (by rw [hg.1.1]; exact g1), he, viS, g2]
  have hs := (mv_confs hd hk.2 (row_mem ht) hx).2.2
  simp only [lsC, Bool.and_eq_true, decide_eq_true_eq]
  exact ⟨hasB_true.2 hrt, by omega⟩
theorem ls_conf {M : List (List Int)} {a X : List Int} (h : srvB M a X = true) : ∀ i, i ≤ X.length → lsA M (confs M.length a.length 0) a X i ∈ confs M.length a.length 0 := by
  obtain ⟨hd, hk, ha, hX, hl⟩ := srv_all h
  intro i
  induction i with
  | zero => intro _; exact ha
  | succ i ih =>
    intro hi
    obtain ⟨j, h1, h2, h3⟩ := first_of (ls_step h (ih (by omega)) (i := i) (by omega))
    rw [lsA, lsJ_at h1 h3 h2]
    exact row_mem h1
/-- a step: the place, the point, the cost -/
theorem ls_next {M : List (List Int)} {a X : List Int} (h : srvB M a X = true) {i : Nat} (hi : i < X.length) :
    nth X i ∈ lsA M (confs M.length a.length 0) a X (i + 1) ∧ mvC M (lsA M (confs M.length a.length 0) a X i) (lsA M (confs M.length a.length 0) a X (i + 1)) + nth (rsD M (confs M.length a.length 0) X (X.length - (i + 1))) (atR (confs M.length a.length 0) (lsA M (confs M.length a.length 0) a X (i + 1))) = nth (rsD M (confs M.length a.length 0) X (X.length - i)) (atR (confs M.length a.length 0) (lsA M (confs M.length a.length 0) a X i)) := by
  have hc := ls_conf h i (by omega)
  obtain ⟨j, h1, h2, h3⟩ := first_of (ls_step h hc (i := i) hi)
  have e : lsA M (confs M.length a.length 0) a X (i + 1) = row (confs M.length a.length 0) j := by rw [lsA, lsJ_at h1 h3 h2]
  have hat : atR (confs M.length a.length 0) (row (confs M.length a.length 0) j) = j := atR_row h1
  rw [e, hat]
  simp only [lsC, Bool.and_eq_true, decide_eq_true_eq] at h2
  exact ⟨hasB_true.1 h2.1, h2.2⟩
theorem ls_sched {M : List (List Int)} {a X : List Int} (h : srvB M a X = true) : smB M a X (lsT M (confs M.length a.length 0) a X X.length) = true ∧
    smR M a X (lsT M (confs M.length a.length 0) a X X.length) = nth (rsD M (confs M.length a.length 0) X X.length) (atR (confs M.length a.length 0) a) := by
  have hB : smB M a X (lsT M (confs M.length a.length 0) a X X.length) = true := by
    refine smB_iff.2 ⟨h, lsT_len, fun i hi => ?_⟩
    rw [lsT_len] at hi
    have h1 := ls_conf h (i + 1) (by omega)
    obtain ⟨h2, h3⟩ := conf_pts h1
    obtain ⟨_, h5, _⟩ := confs_iff.1 h1
    refine smOk_iff.2 ?_
    rw [lsT_row hi]
    refine ⟨cfgB_iff.2 ⟨?_, h3, h5⟩, h2, hasB_true.2 (ls_next h hi).1⟩
    rw [h2]
    exact (srv_all h).2.1
  refine ⟨hB, ?_⟩
  rw [smR, if_pos hB]
  have key : ∀ i, i ≤ X.length → scP a (lsT M (confs M.length a.length 0) a X X.length) i = lsA M (confs M.length a.length 0) a X i ∧
      scTo M a (lsT M (confs M.length a.length 0) a X X.length) i + nth (rsD M (confs M.length a.length 0) X (X.length - i)) (atR (confs M.length a.length 0) (lsA M (confs M.length a.length 0) a X i)) = nth (rsD M (confs M.length a.length 0) X X.length) (atR (confs M.length a.length 0) a) := by
    intro i
    induction i with
    | zero => intro _; exact ⟨rfl, by simp [scTo, lsA]⟩
    | succ i ih =>
      intro hi
      obtain ⟨h1, h2⟩ := ih (by omega)
      have h3 := (ls_next h (i := i) (by omega)).2
      refine ⟨by rw [scP_succ, lsT_row (by omega)], ?_⟩
      rw [scTo, h1, lsT_row (by omega)]
      omega
  have h4 := (key X.length (Nat.le_refl _)).2
  rw [Nat.sub_self, rs_zero (atR_lt (ls_conf h X.length (Nat.le_refl _))).1] at h4
  omega
/-- the least cost is that of the least schedule -/
theorem ls_least {M : List (List Int)} {a X : List Int} (h : srvB M a X = true) : smR M a X (lsT M (confs M.length a.length 0) a X X.length) = lwR M a X := by
  obtain ⟨hd, hk, ha, hX, hl⟩ := srv_all h
  obtain ⟨hB, hS⟩ := ls_sched h
  have h1 := least_le hB
  have hw := wl_good hd hk.1 hk.2 ha hX (by omega)
  obtain ⟨ga, gb⟩ := atR_lt ha
  have key : ∀ i, i ≤ X.length → ∀ j, j < (confs M.length a.length 0).length → nth (rsD M (confs M.length a.length 0) X X.length) (atR (confs M.length a.length 0) a) ≤ nth (wlAt M (confs M.length a.length 0) a X i) j + nth (rsD M (confs M.length a.length 0) X (X.length - i)) j := by
    intro i
    induction i with
    | zero =>
      intro _ j hj
      have hlip := (rs_good h X.length (Nat.le_refl _)).1.2 _ _ ga hj
      rw [gb] at hlip
      have : nth (wlAt M (confs M.length a.length 0) a X 0) j = mvC M a (row (confs M.length a.length 0) j) := by
        simp [wlAt, wst, nth, row, hj]
      rw [this, Nat.sub_zero]
      omega
    | succ i ih =>
      intro hi j hj
      have hg := hw i (by omega)
      have hgr := rs_good h (X.length - (i + 1)) (by omega)
      obtain ⟨_, t, ht, hrt, he⟩ := wnx_way hd hk.1 hk.2 hg (by omega) hj (hX i (by omega))
      have h2 := ih (by omega) t ht
      have hlip := hgr.1.2 _ _ ht hj
      have hway := (wnx_way hd hk.1 hk.2 hgr (by omega) ht (hX i (by omega))).1 t ht hrt
      have e : rsD M (confs M.length a.length 0) X (X.length - i) = wnxL M (confs M.length a.length 0) (rsD M (confs M.length a.length 0) X (X.length - (i + 1))) (nth X i) := by
        rw [show X.length - i = (X.length - (i + 1)) + 1 by omega, rsD, show X.length - 1 - (X.length - (i + 1)) = i by omega]
      rw [e, wnx_at (by rw [hgr.1.1]; exact ht)] at h2
      rw [wlAt, wnx_at (by rw [hg.1.1]; exact hj), he]
      unfold viS at *
      rw [mv_self hd hk.2 (row_mem ht)] at hway
      omega
  have h5 : nth (rsD M (confs M.length a.length 0) X X.length) (atR (confs M.length a.length 0) a) ≤ lwR M a X := by
    rw [lwR, if_pos h]
    obtain ⟨⟨s, hs, e⟩, _⟩ := leastL_min (wl_ne h (Nat.le_refl X.length))
    obtain ⟨j, hj, rfl⟩ := mem_iff_nth.1 hs
    have e' : leastL (wlAt M (confs M.length a.length 0) a X X.length) = nth (wlAt M (confs M.length a.length 0) a X X.length) j := e
    rw [(hw X.length (Nat.le_refl _)).1.1] at hj
    have := key X.length (Nat.le_refl _) j hj
    rw [Nat.sub_self, rs_zero hj] at this
    omega
  omega
end Go.Proofs.YtllfchcocgdcjaaGreat
