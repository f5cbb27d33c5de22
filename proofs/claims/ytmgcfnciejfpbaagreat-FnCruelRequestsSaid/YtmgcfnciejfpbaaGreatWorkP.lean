/- Work functions as lists: their bounds, the least cost, the best schedule. -/
import Derived.Test.YtmgcfnciejfpbaaGreatMin
namespace Go.Proofs.YtmgcfnciejfpbaaGreat
open Go.RowKit

theorem probB_sq {M S : List (List Int)} (h : probB M S = true) {x : Nat} (hx : x < M.length) : (row M x).length = M.length := square_row (tableB_square (probB_table h)) hx
theorem probB_diag {M S : List (List Int)} (h : probB M S = true) {x : Nat} (hx : x < M.length) : cell M x x = 0 := by
  have h' := probB_table h
  simp only [tableB, Bool.and_eq_true, cellsOk, decide_eq_true_eq] at h'
  have h1 := h'.2 x hx x hx
  simp only [cellOk, Bool.and_eq_true, decide_eq_true_eq, if_pos] at h1
  exact h1.2
--PURE
theorem wsum_in {M S : List (List Int)} (hp : probB M S = true) {w : List Int} {B : Int} (hw : wOk M w B) {r t : Nat} (hr : r < S.length) (ht : t < M.length) {s : Int} (hs : s ∈ servedL (row S r)) :
    0 ≤ wsum M S w r t s ∧ wsum M S w r t s ≤ B + 119 := by
  obtain ⟨h0, h1, h2⟩ := servedL_lt hs
  rw [(probB_row hp hr).1] at h1
  have a := hw.2 s.toNat h1
  have b := probB_serve hp hr h1
  have c := probB_move hp h1 ht
  have h2' : 0 ≤ cell S r s.toNat := h2
  unfold wsum
  omega
theorem nextAt_min {M S : List (List Int)} (hp : probB M S = true) {w : List Int} {B : Int} (hw : wOk M w B) (hB : B ≤ 100000) {r t : Nat} (hr : r < S.length) (ht : t < M.length) :
    IsMin (nextAt M S w r t) (servedL (row S r)) (wsum M S w r t) :=
  foldB_min (servedL_ne (probB_row hp hr).2.2) fun s hs => by have := wsum_in hp hw hr ht hs; omega
theorem nextAt_A {M S : List (List Int)} (hp : probB M S = true) {w : List Int} {B : Int} (hw : wOk M w B) (hB : B ≤ 100000) {r t : Nat} (hr : r < S.length) (ht : t < M.length) :
    (servedL (row S r)).foldl (minA (wsum M S w r t)) (-1) = nextAt M S w r t :=
  foldA_eq (servedL_ne (probB_row hp hr).2.2) (fun s hs => (wsum_in hp hw hr ht hs).1) fun s hs => by have := wsum_in hp hw hr ht hs; omega
theorem nextL_ok {M S : List (List Int)} (hp : probB M S = true) {w : List Int} {B : Int} (hw : wOk M w B) (hB : B ≤ 100000) {r : Nat} (hr : r < S.length) : wOk M (nextL M S w r) (B + 119) := by
  refine ⟨by rw [nextL_length, hw.1], fun t ht => ?_⟩
  rw [nth_nextL (by rw [hw.1]; exact ht)]
  obtain ⟨⟨s, hs, e⟩, _⟩ := nextAt_min hp hw hB hr ht
  rw [e]
  exact wsum_in hp hw hr ht hs

def workTo (M S : List (List Int)) (w : List Int) (X : List Int) : Nat → List Int
  | 0 => w
  | k + 1 => nextL M S (workTo M S w X k) (nth X k).toNat
theorem workTo_ok {M S : List (List Int)} (hp : probB M S = true) {w X : List Int} {B : Int} (hw : wOk M w B) (hX : ∀ k, k < X.length → (nth X k).toNat < S.length) :
    ∀ {k : Nat}, k ≤ X.length → B + 119 * k ≤ 100000 → wOk M (workTo M S w X k) (B + 119 * k)
  | 0, _, _ => by
    have : B + 119 * ((0 : Nat) : Int) = B := by omega
    rw [this]; exact hw
  | k + 1, hk, hb => by
    have ih := workTo_ok hp hw hX (k := k) (by omega) (by omega)
    have := nextL_ok hp ih (by omega) (hX k (by omega))
    have e : B + 119 * ((k + 1 : Nat) : Int) = B + 119 * (k : Int) + 119 := by omega
    rw [e]
    exact this
theorem workTo_cons (M S : List (List Int)) (w : List Int) (r : Int) (X : List Int) : ∀ k, workTo M S w (r :: X) (k + 1) = workTo M S (nextL M S w r.toNat) X k
  | 0 => rfl
  | k + 1 => by rw [workTo, workTo_cons M S w r X k]; rfl
def workL (M S : List (List Int)) (w X : List Int) : List Int := workTo M S w X X.length
theorem workL_cons (M S : List (List Int)) (w : List Int) (r : Int) (X : List Int) : workL M S w (r :: X) = workL M S (nextL M S w r.toNat) X := workTo_cons M S w r X X.length
theorem row_ok {M S : List (List Int)} (hp : probB M S = true) {s : Nat} (hs : s < M.length) : wOk M (row M s) 99 := ⟨probB_sq hp hs, fun _ ht => probB_move hp hs ht⟩
def optL (M S : List (List Int)) (w X : List Int) : Int := leastL (workL M S w X)
theorem optL_nil {M S : List (List Int)} (hp : probB M S = true) {s : Nat} (hs : s < M.length) : optL M S (row M s) [] = 0 := by
  have hl := probB_sq hp hs
  have hne : row M s ≠ [] := by
    intro e
    rw [e] at hl
    have := (probB_len hp).1
    simp at hl
    omega
  have hm := leastL_min hne
  obtain ⟨⟨t, ht, e⟩, h⟩ := hm
  have h0 := h (cell M s s) (nth_mem (by rw [hl]; exact hs))
  rw [probB_diag hp hs] at h0
  obtain ⟨k, hk, rfl⟩ := mem_iff_nth.1 ht
  have h1 : 0 ≤ cell M s k := (probB_move hp hs (by rw [hl] at hk; exact hk)).1
  have e' : leastL (row M s) = cell M s k := e
  have h2 : leastL (row M s) ≤ 0 := h0
  show leastL (row M s) = 0
  omega

/-- least values of least values -/
theorem IsMin.lin {M S : List (List Int)} (hp : probB M S = true) {l : List Int} {a : Int → Int} {v : Int → List Int} :
    ∀ (X : List Int) (w : List Int) (B : Int), wOk M w B → (∀ s ∈ l, wOk M (v s) B) → B + 119 * X.length ≤ 100000 → (∀ x ∈ X, 0 ≤ x ∧ x < S.length) → (∀ x, x < M.length → IsMin (nth w x) l fun s => a s + nth (v s) x) →
      IsMin (optL M S w X) l fun s => a s + optL M S (v s) X
  | [], w, B, hw, hv, _, _, h => by
    have hn := probB_len hp
    have ne : ∀ u : List Int, u.length = M.length → u ≠ [] := by
      intro u hu e
      rw [e] at hu
      simp at hu
      omega
    obtain ⟨⟨c, hc, e1⟩, h1⟩ := leastL_min (ne w hw.1)
    obtain ⟨k, hk, rfl⟩ := mem_iff_nth.1 hc
    rw [hw.1] at hk
    obtain ⟨⟨s, hs, e2⟩, h2⟩ := h k hk
    have e1' : leastL w = nth w k := e1
    have hle : ∀ t ∈ l, leastL w ≤ a t + leastL (v t) := by
      intro t ht
      obtain ⟨⟨d, hd, e3⟩, h3⟩ := leastL_min (ne (v t) (hv t ht).1)
      obtain ⟨j, hj, rfl⟩ := mem_iff_nth.1 hd
      rw [(hv t ht).1] at hj
      have q1 := (h j hj).2 t ht
      have q2 := h1 (nth w j) (nth_mem (by rw [hw.1]; exact hj))
      have e3' : leastL (v t) = nth (v t) j := e3
      have q2' : leastL w ≤ nth w j := q2
      have q1' : nth w j ≤ a t + nth (v t) j := q1
      omega
    refine ⟨⟨s, hs, ?_⟩, hle⟩
    have q := hle s hs
    have q2 : leastL (v s) ≤ nth (v s) k := (leastL_min (ne (v s) (hv s hs).1)).2 _ (nth_mem (by rw [(hv s hs).1]; exact hk))
    have e2' : nth w k = a s + nth (v s) k := e2
    show leastL w = a s + leastL (v s)
    omega
  | r :: X, w, B, hw, hv, hB, hX, h => by
    have hl : B + 119 * ((X.length + 1 : Nat) : Int) ≤ 100000 := by simpa using hB
    have hr := hX r (by simp)
    have hrn : r.toNat < S.length := by omega
    have hg : (fun s => a s + optL M S (v s) (r :: X)) = fun s => a s + optL M S (nextL M S (v s) r.toNat) X := by
      funext s
      rw [optL, workL_cons]; rfl
    have hw' : optL M S w (r :: X) = optL M S (nextL M S w r.toNat) X := by rw [optL, workL_cons]; rfl
    rw [hg, hw']
    refine IsMin.lin hp X (nextL M S w r.toNat) (B + 119) (nextL_ok hp hw (by omega) hrn) (fun s hs => nextL_ok hp (hv s hs) (by omega) hrn) (by omega) (fun x hx => hX x (by simp [hx])) ?_
    intro t ht
    rw [nth_nextL (by rw [hw.1]; exact ht)]
    obtain ⟨⟨q, hq, e1⟩, h1⟩ := nextAt_min hp hw (by omega) hrn ht
    have hqs := servedL_lt hq
    rw [(probB_row hp hrn).1] at hqs
    obtain ⟨⟨s, hs, e2⟩, h2⟩ := h q.toNat hqs.2.1
    have e2' : nth w q.toNat = a s + nth (v s) q.toNat := e2
    have hle : ∀ u ∈ l, nextAt M S w r.toNat t ≤ a u + nextAt M S (v u) r.toNat t := by
      intro u hu
      obtain ⟨⟨p, hpq, e3⟩, h3⟩ := nextAt_min hp (hv u hu) (by omega) hrn ht
      have hps := servedL_lt hpq
      rw [(probB_row hp hrn).1] at hps
      have q1 : nth w p.toNat ≤ a u + nth (v u) p.toNat := (h p.toNat hps.2.1).2 u hu
      have q2 := h1 p hpq
      unfold wsum at q2 e3
      omega
    refine ⟨⟨s, hs, ?_⟩, fun u hu => ?_⟩
    · have q1 := hle s hs
      have q2 := (nextAt_min hp (hv s hs) (by omega) hrn ht).2 q hq
      show _ = a s + nth (nextL M S (v s) r.toNat) t
      rw [nth_nextL (by rw [(hv s hs).1]; exact ht)]
      unfold wsum at q2 e1
      omega
    · have := hle u hu
      show _ ≤ a u + nth (nextL M S (v u) r.toNat) t
      rwa [nth_nextL (by rw [(hv u hu).1]; exact ht)]

/-- the least cost of a sequence, by the state of its first request -/
theorem opt_step {M S : List (List Int)} (hp : probB M S = true) {X : List Int} {r : Int} {s : Nat} (hs : s < M.length) (hr : 0 ≤ r ∧ r < S.length) (hX : ∀ x ∈ X, 0 ≤ x ∧ x < S.length) (hl : X.length ≤ 60) :
    IsMin (optL M S (row M s) (r :: X)) (servedL (row S r.toNat)) fun t => stepC M S r s t + optL M S (row M t.toNat) X := by
  have hrn : r.toNat < S.length := by omega
  have hw' : optL M S (row M s) (r :: X) = optL M S (nextL M S (row M s) r.toNat) X := by rw [optL, workL_cons]; rfl
  rw [hw']
  have hok := row_ok hp hs
  refine IsMin.lin hp (a := fun t => stepC M S r s t) (v := fun t => row M t.toNat) X _ 218 (nextL_ok hp hok (by omega) hrn) (fun t ht => ?_) (by omega) hX ?_
  · have h := servedL_lt ht
    rw [(probB_row hp hrn).1] at h
    have h2 := row_ok hp h.2.1
    exact ⟨h2.1, fun x hx => by have := h2.2 x hx; omega⟩
  · intro x hx
    rw [nth_nextL (by rw [hok.1]; exact hx)]
    have h := nextAt_min hp hok (by omega) hrn hx
    have e : (wsum M S (row M s) r.toNat x) = fun t => stepC M S r s t + nth (row M t.toNat) x := by
      funext t
      unfold wsum stepC cell
      rw [Int.toNat_natCast]
    rwa [e] at h

end Go.Proofs.YtmgcfnciejfpbaaGreat
